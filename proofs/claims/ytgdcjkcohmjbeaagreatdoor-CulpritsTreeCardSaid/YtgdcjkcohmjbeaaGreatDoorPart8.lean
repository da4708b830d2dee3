/-
  Lemmas.
-/
import Derived.Test.YtgdcjkcohmjbeaaGreatDoorPart7
set_option linter.unusedSimpArgs false
set_option linter.unusedVariables false
set_option linter.unnecessarySimpa false
set_option linter.deprecated false
namespace Go.Avl
open Go Go.Proofs.Tryz
set_option maxRecDepth 10000
theorem equal53_is (na nb : Bool) (a b : List Int) (ca cb : Cp) (hl : a.length < 1000000) :
  PureIs prog 41 [.sl na (a.map intC) ca, .sl nb (b.map intC) cb] (.sc (.bool (decide (a = b)))) := by
 refine PureIs.of1 2 [4, 5, 10, 12, 13, 14, 24] func41 ntmps41 results41 fun _ => ?_;refine EvC.a ?_;refine EvC.seq ?_;refine EvC.a ?_ (by simp only [go_sem, List.length_map] <;> rfl);by_cases hlen : a.length = b.length;rotate_left
 ·have hd : decide ((a.length : Int) = (b.length : Int)) = false := decide_eq_false (by omega);have hab : decide (a = b) = false := decide_eq_false fun h => hlen (by rw [h]);rw [hab];refine EvC.ct ?_ (by simp only [go_sem, hd] <;> rfl);refine EvC.a ?_;refine EvC.rz ?_;simp only [go_sem]
 have hd : decide ((a.length : Int) = (b.length : Int)) = true := decide_eq_true (by omega);refine EvC.cs ?_ (by simp only [go_sem, hd] <;> rfl);refine EvC.seq ?_;refine EvC.a ?_ (by simp only [go_sem, List.length_map] <;> rfl);refine EvC.block ?_;refine EvC.loopS (σ := Nat) (fun i => ⟨[(0, .sl na (a.map intC) ca), (1, .sl nb (b.map intC) cb), (12, .sc (.int .i64 a.length)), (13, .sc (.int .i64 i))], [], [], 0⟩) (fun i => a.length - i) (fun i => i ≤ a.length ∧ decide (a = b) = decide (a.drop i = b.drop i)) [0, 1, 12, 13] 0 ?_ ?_
 ·exact ⟨[], 0, rfl, (by simp only [go_sem, Int.natCast_zero] <;> rfl), Nat.zero_le _, rfl⟩
 rintro i ⟨hi, hinv⟩;refine EvC.a ?_;refine EvC.seq ?_;refine EvC.cond (by simp only [go_sem] <;> rfl) (fun hc => ?_) (fun hc => ?_);rotate_left
 ·
  refine EvC.exit ?_
  obtain rfl : a.length = i := by have : ¬ i < a.length := by simpa using hc
                                  omega
  have h0 : decide (a = b) = true := by rw [hinv, List.drop_length, hlen, List.drop_length]; rfl
  rw [h0];refine EvC.a ?_;refine EvC.rz ?_;simp only [go_sem]
 have hil : i < a.length := by simpa using hc
 clear hc;have he : a[i]? = some (a[i]'hil) := List.getElem?_eq_getElem hil;have hf : b[i]? = some (b[i]'(by omega)) := List.getElem?_eq_getElem (by omega);generalize a[i]'hil = x at he;generalize b[i]'(by omega) = y at hf;rw [list_step he, list_step hf] at hinv;have hin : (i : Int).toNat = i := Int.toNat_natCast i;refine EvC.skip ?_;refine EvC.seq ?_;refine EvC.block ?_;refine EvC.a ?_;refine EvC.d mixed ?_ (h := by simp only [go_sem, he, hf, intC, hin, List.length_map] <;> rfl) (hok := by simp; try omega);by_cases hxy : x = y
 ·subst hxy;refine EvC.cs ?_;refine EvC.b ?_ (hok := by exact inI64_of (by omega) (by omega));exact ⟨[], i + 1, rfl, (by simp only [go_sem, Int.natCast_add, Int.natCast_one] <;> rfl), ⟨hil, by rw [hinv]; simp⟩, by omega⟩
 ·have d1 : decide (x = y) = false := decide_eq_false hxy;refine EvC.ct ?_ (by simp only [go_sem, d1] <;> rfl);refine EvC.a ?_;rw [hinv];refine EvC.rz ?_;simp only [go_sem];simp [hxy]
theorem fitsR_mono {k k2 : Nat} {o a b : Int} (hk : k ≤ k2) (h : fitsR k o a b = true) : fitsR k2 o a b = true := by
 unfold fitsR at h ⊢;simp only [Bool.or_eq_true, Bool.and_eq_true, decide_eq_true_eq] at h ⊢;omega
theorem fitsR_in {k : Nat} {o a b : Int} (h1 : 0 ≤ a ∧ a < k) (h2 : 0 ≤ b ∧ b < o) : fitsR k o a b = true := by
 unfold fitsR;simp only [Bool.or_eq_true, Bool.and_eq_true, decide_eq_true_eq];omega
theorem fitsR_none (k : Nat) (o : Int) : fitsR k o (-1) (-1) = true := by
 unfold fitsR;simp
theorem stepM_out {m : Mach} (hv : Valid m) {s i : Int} (hd : definedB m s i = true) : 0 ≤ (stepM m s i).2 ∧ (stepM m s i).2 < m.outs := by
 obtain ⟨h1, h2, h3⟩ := definedB_iff.1 hd;obtain ⟨r, _, _, k3⟩ := stepM_get hv h1 h2;unfold fitsR at k3;simp only [Bool.or_eq_true, Bool.and_eq_true, decide_eq_true_eq] at k3;omega
def RowV (m : Mach) (k : Nat) (r : Row) : Prop := (r.2.length : Int) = m.ins ∧ ∀ e ∈ r.2, fitsR k m.outs e.1 e.2 = true
theorem RowV.set {m : Mach} {k : Nat} {l : List (Int × Int)} (h : RowV m k (false, l)) (i : Nat) {e : Int × Int} (he : fitsR k m.outs e.1 e.2 = true) : RowV m k (false, l.set i e) := by
 refine ⟨by simpa using h.1, fun x hx => ?_⟩;rcases List.mem_or_eq_of_mem_set hx with h1 | rfl
 ·exact h.2 x h1
 ·exact he
theorem putR_rowV {m : Mach} (hv : Valid m) {s i : Int} (hs : 0 ≤ s ∧ s < m.rows.length) {e : Int × Int} {k : Nat} (hk : m.rows.length ≤ k) (he : fitsR k m.outs e.1 e.2 = true) : ∀ r ∈ putR m s i e, RowV m k r := by
 intro r hr;have hb : ∀ q ∈ m.rows, RowV m k (false, q.2) := fun q hq => ⟨(hv.row q hq).1, fun x hx => fitsR_mono hk ((hv.row q hq).2 x hx)⟩;unfold putR copyR at hr;rcases List.mem_or_eq_of_mem_set hr with h | rfl
 ·obtain ⟨q, hq, rfl⟩ := List.mem_map.1 h;exact hb q hq
 ·have h5 : m.rows[s.toNat]? = some (m.rows[s.toNat]'(by omega)) := List.getElem?_eq_getElem (by omega);have hrt : rowAt m s = (m.rows[s.toNat]'(by omega)).2 := by unfold rowAt; rw [h5]; rfl
  rw [hrt];exact (hb _ (List.getElem_mem _)).set _ he
theorem putR_len (m : Mach) (s i : Int) (e : Int × Int) : (putR m s i e).length = m.rows.length := by simp [putR, copyR]
theorem Valid.mk' {m : Mach} (hv : Valid m) {rs : List Row} (h1 : m.rows.length ≤ rs.length) (h2 : rs.length ≤ 64) (h : ∀ r ∈ rs, RowV m rs.length r) : Valid ⟨m.ins, m.outs, false, rs⟩ :=
 ⟨hv.ins, hv.outs, ⟨by have := hv.rows; show 1 ≤ rs.length; omega, h2⟩, fun r hr => h r hr⟩
theorem mutF_valid {m : Mach} (hv : Valid m) {f : FA} (hc : checkF m f = 0) : Valid (mutF m f) := by
 unfold checkF at hc;split at hc;rotate_left
 ·cases hc
 rename_i hfb;split at hc
 ·cases hc
 rename_i h64;unfold faultB at hfb;simp only [Bool.and_eq_true] at hfb;obtain ⟨hp, hd, hkb⟩ := hfb;have hst := stepM_out hv hd;obtain ⟨r, h1, h2, he⟩ := step_in hv hd;obtain ⟨b1, b2, _⟩ := definedB_iff.1 hd;have hr64 := hv.rows.2;unfold kindB at hkb;unfold mutF mutRows;split
 ·rename_i h0;rw [if_pos h0] at hkb;simp only [Bool.and_eq_true, inN, decide_eq_true_eq] at hkb;exact hv.mk' (by rw [putR_len]; omega) (by rw [putR_len]; omega) (by rw [putR_len]; exact putR_rowV hv b1 (Nat.le_refl _) (fitsR_in he hkb.1))
 rename_i h0;rw [if_neg h0] at hkb;split
 ·rename_i h1;rw [if_pos h1] at hkb;simp only [Bool.and_eq_true, inN, decide_eq_true_eq] at hkb;exact hv.mk' (by rw [putR_len]; omega) (by rw [putR_len]; omega) (by rw [putR_len]; exact putR_rowV hv b1 (Nat.le_refl _) (fitsR_in hkb.1 hst))
 rename_i h1;rw [if_neg h1] at hkb;split
 ·rename_i h2;exact hv.mk' (by rw [putR_len]; omega) (by rw [putR_len]; omega) (by rw [putR_len]; exact putR_rowV hv b1 (Nat.le_refl _) (fitsR_none _ _))
 rename_i h2;rw [if_neg h2] at hkb;have h3k : 3 ≤ f.kind := by
  have := plainB_kind hp;omega
 have h64' : m.rows.length + 1 ≤ 64 := by omega
 have hput : ∀ r ∈ putR m f.state f.input ((m.rows.length : Int), (stepM m f.state f.input).2), RowV m (m.rows.length + 1) r := putR_rowV hv b1 (by omega) (fitsR_in (by simp; omega) hst);have hone : ∀ (t : Int), 0 ≤ t ∧ t < m.rows.length → RowV m (m.rows.length + 1) (false, rowAt m t) := by
  intro t ht;have h5 : m.rows[t.toNat]? = some (m.rows[t.toNat]'(by omega)) := List.getElem?_eq_getElem (by omega);have hrt : rowAt m t = (m.rows[t.toNat]'(by omega)).2 := by unfold rowAt; rw [h5]; rfl
  rw [hrt];have hq := hv.row _ (List.getElem_mem (show t.toNat < m.rows.length by omega));exact ⟨hq.1, fun x hx => fitsR_mono (by omega) (hq.2 x hx)⟩
 split
 ·rename_i h3;rw [if_pos h3] at hkb;simp only [inN, Bool.and_eq_true, decide_eq_true_eq] at hkb;have hl : (putR m f.state f.input ((m.rows.length : Int), (stepM m f.state f.input).2) ++ [((false, rowAt m f.to) : Row)]).length = m.rows.length + 1 := by rw [List.length_append, putR_len]; rfl
  refine hv.mk' (by omega) (by omega) ?_;rw [hl];intro q hq;rcases List.mem_append.1 hq with h | h
  ·exact hput q h
  ·rw [List.mem_singleton] at h;rw [h];exact hone _ hkb
 ·rename_i h3;rw [if_neg h3] at hkb;simp only [inN, Bool.and_eq_true, decide_eq_true_eq] at hkb;obtain ⟨ho, hd2, _⟩ := hkb;have he2 := (step_in hv hd2).choose_spec.2.2;have hl : (putR m f.state f.input ((m.rows.length : Int), (stepM m f.state f.input).2) ++ [((false, (rowAt m (stepM m f.state f.input).1).set f.at'.toNat ((stepM m (stepM m f.state f.input).1 f.at').1, f.out)) : Row)]).length = m.rows.length + 1 := by rw [List.length_append, putR_len]; rfl
  refine hv.mk' (by omega) (by omega) ?_;rw [hl];intro q hq;rcases List.mem_append.1 hq with h | h
  ·exact hput q h
  ·rw [List.mem_singleton] at h;rw [h];exact (hone _ he).set _ (fitsR_in (by omega) ho)
section
variable {κ : Type}
def dvPut (eqB : κ → κ → Bool) (x : κ) (i : Int) : List (κ × List Int) → List (κ × List Int)
 | [] => [(x, [i])]
 | p :: ps => if eqB p.1 x = true then (p.1, p.2 ++ [i]) :: ps else p :: dvPut eqB x i ps
def dvL (eqB : κ → κ → Bool) (K : Int → κ) : List Int → List (κ × List Int) → List (κ × List Int)
 | [], ps => ps
 | i :: is, ps => dvL eqB K is (dvPut eqB (K i) i ps)
theorem dvPut_set {eqB : κ → κ → Bool} {x : κ} {i : Int} : ∀ {ps : List (κ × List Int)} {n : Nat} {p : κ × List Int}, (∀ j q, j < n → ps[j]? = some q → eqB q.1 x = false) → ps[n]? = some p → eqB p.1 x = true → dvPut eqB x i ps = ps.set n (p.1, p.2 ++ [i])
 | [], n, p, _, h, _ => by simp at h
 | q :: ps, 0, p, _, h, he => by
   simp only [List.getElem?_cons_zero, Option.some.injEq] at h;subst h;rw [dvPut, if_pos he]; rfl
 | q :: ps, n + 1, p, h0, h, he => by
   have h1 := h0 0 q (by omega) rfl;rw [dvPut, if_neg (by rw [h1]; simp), List.set_cons_succ, dvPut_set (n := n) (p := p) (fun j r hj hr => h0 (j + 1) r (by omega) (by simpa using hr)) (by simpa using h) he]
theorem dvPut_new {eqB : κ → κ → Bool} {x : κ} {i : Int} : ∀ {ps : List (κ × List Int)}, (∀ q ∈ ps, eqB q.1 x = false) → dvPut eqB x i ps = ps ++ [(x, [i])]
 | [], _ => rfl
 | q :: ps, h => by
   rw [dvPut, if_neg (by rw [h q List.mem_cons_self]; simp), dvPut_new fun r hr => h r (List.mem_cons_of_mem _ hr)]; rfl
theorem dvPut_bd {eqB : κ → κ → Bool} {x : κ} {i : Int} {N : Nat} : ∀ {ps : List (κ × List Int)}, (∀ q ∈ ps, q.2.length ≤ N) → ∀ q ∈ dvPut eqB x i ps, q.2.length ≤ N + 1
 | [], _, q, hq => by
   rw [dvPut, List.mem_singleton] at hq; subst hq; simp
 | p :: ps, h, q, hq => by
   rw [dvPut] at hq;split at hq
   ·rcases List.mem_cons.1 hq with rfl | hq
    ·have := h p List.mem_cons_self; simp; omega
    ·have := h q (List.mem_cons_of_mem _ hq); omega
   ·rcases List.mem_cons.1 hq with rfl | hq
    ·have := h q List.mem_cons_self; omega
    ·exact dvPut_bd (fun r hr => h r (List.mem_cons_of_mem _ hr)) q hq
theorem dvPut_len {eqB : κ → κ → Bool} {x : κ} {i : Int} : ∀ {ps : List (κ × List Int)}, (dvPut eqB x i ps).length ≤ ps.length + 1
 | [] => by simp [dvPut]
 | p :: ps => by
   rw [dvPut]; split
   ·simp
   ·have := dvPut_len (eqB := eqB) (x := x) (i := i) (ps := ps); simp; exact this
variable (kc : κ → List AV)
def dcA : List (κ × List Int) → Nat → List (List AV)
 | [], _ => []
 | p :: ps, s => (kc p.1 ++ [.tl (2000000 + s) p.2.length false]) :: dcA ps (s + 1)
theorem dcA_len : ∀ (ps : List (κ × List Int)) (s : Nat), (dcA kc ps s).length = ps.length
 | [], _ => rfl
 | p :: ps, s => by simp only [dcA, List.length_cons, dcA_len ps]
theorem dcA_get : ∀ {ps : List (κ × List Int)} {s n : Nat} {p : κ × List Int}, ps[n]? = some p → (dcA kc ps s)[n]? = some (kc p.1 ++ [.tl (2000000 + (s + n)) p.2.length false])
 | q :: ps, s, 0, p, h => by
   simp only [List.getElem?_cons_zero, Option.some.injEq] at h;subst h; rfl
 | q :: ps, s, n + 1, p, h => by
   have := dcA_get (s := s + 1) (show ps[n]? = some p by simpa using h);rw [dcA, List.getElem?_cons_succ, this, show s + 1 + n = s + (n + 1) by omega]
theorem dcA_set : ∀ {ps : List (κ × List Int)} {s n : Nat} {p : κ × List Int} (l : List Int), ps[n]? = some p → (dcA kc ps s).set n (kc p.1 ++ [.tl (2000000 + (s + n)) l.length false]) = dcA kc (ps.set n (p.1, l)) s
 | q :: ps, s, 0, p, l, h => by
   simp only [List.getElem?_cons_zero, Option.some.injEq] at h;subst h; rfl
 | q :: ps, s, n + 1, p, l, h => by
   have := dcA_set (s := s + 1) l (show ps[n]? = some p by simpa using h);rw [dcA, List.set_cons_succ, List.set_cons_succ, dcA, ← this, show s + 1 + n = s + (n + 1) by omega]
theorem dcA_snoc : ∀ (ps : List (κ × List Int)) (s : Nat) (x : κ) (l : List Int), dcA kc ps s ++ [kc x ++ [.tl (2000000 + (s + ps.length)) l.length false]] = dcA kc (ps ++ [(x, l)]) s
 | [], s, x, l => rfl
 | p :: ps, s, x, l => by
   have := dcA_snoc ps (s + 1) x l;rw [dcA, List.cons_append, List.cons_append, dcA, ← this, List.length_cons, show s + 1 + ps.length = s + (ps.length + 1) by omega]
variable {kc}
theorem ren_norefs {K : List (Nat × Nat)} {cs : List AV} (h : AV.norefs cs = true) : cs.map (AV.ren K) = cs := by
 have : ∀ c ∈ cs, AV.ren K c = c := by
  intro c hc;obtain ⟨i, hi, rfl⟩ := List.getElem_of_mem hc;have := norefs_get cs h i hi;simp [AV.ren, this]
 conv => rhs; rw [← List.map_id cs]
 exact List.map_congr_left this
theorem dcA_ren (hk : ∀ x, AV.norefs (kc x) = true) {K : List (Nat × Nat)} : ∀ {ps : List (κ × List Int)} {s : Nat}, (∀ j, j < ps.length → rlook K (2000000 + (s + j)) = some (2000000 + (s + j))) → (dcA kc ps s).map (fun c => c.map (AV.ren K)) = dcA kc ps s
 | [], _, _ => rfl
 | p :: ps, s, h => by
   have h1 := h 0 (by simp);have h2 := dcA_ren hk (K := K) (ps := ps) (s := s + 1) fun j hj => by
    have := h (j + 1) (by simpa using hj)
    rwa [show s + (j + 1) = s + 1 + j by omega] at this
   rw [dcA, List.map_cons, h2, List.map_append, ren_norefs (hk p.1)];simp only [Nat.add_zero] at h1;simp only [List.map_cons, List.map_nil, AV.ren, AV.noref, Bool.false_eq_true, if_false, AV.deep, renLeaf, h1]
def dRows (ps : List (κ × List Int)) : Mem := msegA 2000000 (ps.map fun p => .arr 1 (p.2.map intC) false)
theorem dRows_look {ps : List (κ × List Int)} {n : Nat} {p : κ × List Int} (h : ps[n]? = some p) : mlook (dRows ps) (2000000 + n) = some (.arr 1 (p.2.map intC) false) := by
 rw [dRows, mlook_msegO, List.getElem?_map, h]; rfl
theorem dRows_none {ps : List (κ × List Int)} (hn : ps.length ≤ 1000000) {k : Nat} (hk : notO k = true) : mlook (dRows ps) k = none := by
 rw [dRows, mlook_msegA];split
 ·rw [List.getElem?_eq_none];unfold notO at hk; simp at hk; simp; omega
 ·rfl
theorem dRows_snoc (ps : List (κ × List Int)) (x : κ) (l : List Int) : dRows ps ++ [(2000000 + ps.length, .arr 1 (l.map intC) false)] = dRows (ps ++ [(x, l)]) := by
 rw [dRows, dRows, List.map_append, msegA_append];simp [msegA]
theorem dRows_ren {ps : List (κ × List Int)} (K : List (Nat × Nat)) : renMem (dRows ps) K (oK ps.length) = dRows ps := by
 have := renMem_oK K (ps.map fun p => RObj.arr 1 (p.2.map intC) false) [] ps.length (by simp);rw [List.append_nil, List.take_of_length_le (by simp), List.map_map] at this;rw [dRows, this];congr 1;refine List.map_congr_left fun p _ => ?_;have hn : (p.2.map intC).all AV.norefs = true := by simp [List.all_eq_true, intC, AV.norefs, AV.noref]
 simp only [Function.comp, RObj.ren, hn, if_true]
end
def dRowsF {κ : Type} (ps : List (κ × List Int)) : Mem := msegA 2000000 (ps.map fun p => .arr 1 (p.2.map intC) true)
theorem dRowsF_look {κ : Type} {ps : List (κ × List Int)} {n : Nat} {p : κ × List Int} (h : ps[n]? = some p) : mlook (dRowsF ps) (2000000 + n) = some (.arr 1 (p.2.map intC) true) := by
 rw [dRowsF, mlook_msegO, List.getElem?_map, h]; rfl
theorem dRows_fz {κ : Type} (ps : List (κ × List Int)) : ofzAll ps.length (dRows ps) = dRowsF ps := by
 have := ofzAll_seg (ps.map fun p => RObj.arr 1 (p.2.map intC) false) [] ps.length (by simp);rw [List.append_nil, List.take_of_length_le (by simp), List.drop_eq_nil_of_le (by simp), List.append_nil, List.append_nil, List.map_map] at this;rw [dRows, this];rfl
theorem dRowsF_memMap {κ : Type} (f : AV → AV) (ps : List (κ × List Int)) : memMap f (dRowsF ps) = dRowsF ps := by
 rw [dRowsF, memMap_msegA, List.map_map];rfl
theorem mdel_mset_none : ∀ {M : Mem} {k : Nat} {o : RObj}, mlook M k = none → mdel (mset M k o) k = M
 | [], k, o, _ => by simp [mset, mdel]
 | (j, u) :: M, k, o, h => by
   simp only [mlook] at h;split at h
   ·cases h
   ·rename_i e;simp only [mset, if_neg e, mdel];rw [mdel_mset_none h]
def dM {κ : Type} (kc : κ → List AV) (e : Nat) (ps : List (κ × List Int)) : Mem := (0, .arr e (dcA kc ps 0) false) :: dRows ps
def partC {κ : Type} (kc : κ → List AV) (p : κ × List Int) : List AV := kc p.1 ++ [.sl false (p.2.map intC) .unk]
section
variable {κ : Type} {kc : κ → List AV} {e : Nat} {ps : List (κ × List Int)} {M : Mem}
theorem dM_look0 : mlook (dM kc e ps) 0 = some (.arr e (dcA kc ps 0) false) := rfl
theorem dM_lookR {n : Nat} {p : κ × List Int} (h : ps[n]? = some p) : mlook (dM kc e ps) (2000000 + n) = some (.arr 1 (p.2.map intC) false) := by
 rw [dM]; simp only [mlook]; rw [if_neg (by omega), dRows_look h]
theorem arrRen_eq {K : List (Nat × Nat)} {es es' : List (List AV)} {fz : Bool} (h : es.map (fun c => c.map (AV.ren K)) = es') (h2 : es.all AV.norefs = true → es = es') : RObj.ren K (.arr e es fz) = .arr e es' fz := by
 simp only [RObj.ren];split
 ·rename_i hn; rw [h2 hn]
 ·rw [h]
theorem dM_ren (hk : ∀ x, AV.norefs (kc x) = true) (hp : ps.length ≤ 1000000) (h0 : mlook M 0 = some (.arr e (dcA kc ps 0) false)) (hr : ∀ j p, ps[j]? = some p → mlook M (2000000 + j) = some (.arr 1 (p.2.map intC) false)) :
  renMem M (osegK [(0, 0)] ps.length []) (osegK [(0, 0)] ps.length []) = dM kc e ps := by
 have hlo : ∀ j, j < ps.length → rlook (osegK [(0, 0)] ps.length []) (2000000 + (0 + j)) = some (2000000 + (0 + j)) := fun j hj => by rw [Nat.zero_add]; exact rlook_osegK_lo hj hp rfl
 rw [renMem_osegK];have h1 : renMem M (osegK [(0, 0)] ps.length []) [(0, 0)] = [(0, .arr e (dcA kc ps 0) false)] := by
  simp only [renMem, h0];rw [arrRen_eq (dcA_ren hk hlo) fun _ => rfl]
 have h2 : renMem M (osegK [(0, 0)] ps.length []) (oK ps.length) = dRows ps := by
  rw [renMem_oK_congr hp (M' := dRows ps) _ fun j hj => ?_, dRows_ren];have hg : ps[j]? = some ps[j] := List.getElem?_eq_getElem hj;rw [hr j _ hg, dRows_look hg]
 rw [h1, h2];simp [renMem, dM]
theorem dM_ren1 (hk : ∀ x, AV.norefs (kc x) = true) (hp : ps.length < 1000000) {k : Nat} (hkn : notO k = true) (hk0 : k ≠ 0) {x : κ} {l : List Int} (h0 : mlook M 0 = some (.arr e (dcA kc ps 0 ++ [kc x ++ [.tl k l.length false]]) false)) (hr : ∀ j p, ps[j]? = some p → mlook M (2000000 + j) = some (.arr 1 (p.2.map intC) false))
  (hl : mlook M k = some (.arr 1 (l.map intC) false)) :
  renMem M (osegK [(0, 0)] ps.length [(k, 2000000 + ps.length)]) (osegK [(0, 0)] ps.length [(k, 2000000 + ps.length)]) = dM kc e (ps ++ [(x, l)]) := by
 have hlo : ∀ j, j < ps.length → rlook (osegK [(0, 0)] ps.length [(k, 2000000 + ps.length)]) (2000000 + (0 + j)) = some (2000000 + (0 + j)) := fun j hj => by rw [Nat.zero_add]; exact rlook_osegK_lo hj (by omega) rfl
 have hlk : rlook (osegK [(0, 0)] ps.length [(k, 2000000 + ps.length)]) k = some (2000000 + ps.length) := by
  rw [rlook_osegK_hi (by omega) _ _ _ hkn];simp [rlook, hk0]
 rw [renMem_osegK];have h1 : renMem M (osegK [(0, 0)] ps.length [(k, 2000000 + ps.length)]) [(0, 0)] = [(0, .arr e (dcA kc (ps ++ [(x, l)]) 0) false)] := by
  simp only [renMem, h0];have := dcA_snoc kc ps 0 x l;rw [Nat.zero_add] at this;rw [arrRen_eq (es' := dcA kc (ps ++ [(x, l)]) 0) ?_ ?_]
  ·rw [List.map_append, dcA_ren hk hlo, ← this, List.map_cons, List.map_append, ren_norefs (hk x)];simp only [List.map_cons, List.map_nil, AV.ren, AV.noref, Bool.false_eq_true, if_false, AV.deep, renLeaf, hlk]
  ·intro hn;have hf : ∀ cs : List AV, AV.norefs (cs ++ [.tl k l.length false]) = false := by
    intro cs
    induction cs with
    | nil => rfl
    | cons c cs ih => simp [AV.norefs, ih]
   rw [List.all_append] at hn;simp [hf] at hn
 have h2 : renMem M (osegK [(0, 0)] ps.length [(k, 2000000 + ps.length)]) (oK ps.length) = dRows ps := by
  rw [renMem_oK_congr (by omega) (M' := dRows ps) _ fun j hj => ?_, dRows_ren];have hg : ps[j]? = some ps[j] := List.getElem?_eq_getElem hj;rw [hr j _ hg, dRows_look hg]
 have h3 : renMem M (osegK [(0, 0)] ps.length [(k, 2000000 + ps.length)]) [(k, 2000000 + ps.length)] = [(2000000 + ps.length, .arr 1 (l.map intC) false)] := by
  have hn : (l.map intC).all AV.norefs = true := by simp [List.all_eq_true, intC, AV.norefs, AV.noref]
  simp only [renMem, hl, RObj.ren, hn, if_true]
 rw [h1, h2, h3, dRows_snoc];rfl
theorem dM_none (hp : ps.length ≤ 1000000) {k : Nat} (hk : notO k = true) (hk0 : k ≠ 0) : mlook (dM kc e ps) k = none := by
 rw [dM]; simp only [mlook]; rw [if_neg hk0, dRows_none hp hk]
def dK (n : Nat) : List (Nat × Nat) := osegK [(0, 0)] n []
def dK1 (n k : Nat) : List (Nat × Nat) := osegK [(0, 0)] n [(k, 2000000 + n)]
theorem dK_hi {n : Nat} (hn : n ≤ 1000000) (k : Nat) (hk : notO k = true) : rlook (dK n) k = rlook [(0, 0)] k := by rw [dK, rlook_osegK_hi hn _ _ _ hk, List.append_nil]
theorem dK1_hi {n k0 : Nat} (hn : n ≤ 1000000) (k : Nat) (hk : notO k = true) : rlook (dK1 n k0) k = rlook [(0, 0), (k0, 2000000 + n)] k := by rw [dK1, rlook_osegK_hi hn _ _ _ hk]; rfl
theorem dK_ok {n : Nat} (hn : n ≤ 1000000) : gcOk 0 3000000 (dK n) = true := osegK_ok (A := [(0, 0)]) rfl rfl rfl hn (by omega)
theorem dK1_ok {n k : Nat} (hn : n < 1000000) (hk : notO k = true) (hk0 : k ≠ 0) : gcOk 0 3000000 (dK1 n k) = true := osegK_ok1 (A := [(0, 0)]) rfl rfl rfl hk (by simp only [rlook, if_neg hk0]) (by omega) (by omega) hn (by omega)
theorem dM_gc (hk : ∀ x, AV.norefs (kc x) = true) (hp : ps.length ≤ 1000000) (h0 : mlook M 0 = some (.arr e (dcA kc ps 0) false)) (hr : ∀ j p, ps[j]? = some p → mlook M (2000000 + j) = some (.arr 1 (p.2.map intC) false)) : renMem M (dK ps.length) (dK ps.length) = dM kc e ps := dM_ren hk hp h0 hr
theorem dM_gc1 (hk : ∀ x, AV.norefs (kc x) = true) (hp : ps.length < 1000000) {k : Nat} (hkn : notO k = true) (hk0 : k ≠ 0) {x : κ} {l : List Int} (h0 : mlook M 0 = some (.arr e (dcA kc ps 0 ++ [kc x ++ [.tl k l.length false]]) false)) (hr : ∀ j p, ps[j]? = some p → mlook M (2000000 + j) = some (.arr 1 (p.2.map intC) false))
 (hl : mlook M k = some (.arr 1 (l.map intC) false)) : renMem M (dK1 ps.length k) (dK1 ps.length k) = dM kc e (ps ++ [(x, l)]) := dM_ren1 hk hp hkn hk0 h0 hr hl
end
def keyI (x : List Int) : List AV := [.sl false (x.map intC) .unk]
def eqI (a b : List Int) : Bool := decide (a = b)
theorem keyI_norefs (x : List Int) : AV.norefs (keyI x) = true := by
 have : (x.map intC).all AV.norefs = true := by simp [List.all_eq_true, intC, AV.norefs, AV.noref]
 simp [keyI, AV.norefs, AV.noref, this]
section
variable {κ : Type} {kc : κ → List AV}
theorem deep_norefs {M : Mem} {cs : List AV} (h : AV.norefs cs = true) : cs.map (AV.deep (snap M)) = cs := by
 have : ∀ c ∈ cs, AV.deep (snap M) c = c := by
  intro c hc;obtain ⟨i, hi, rfl⟩ := List.getElem_of_mem hc;exact deep_fix (snap_fix M) _ _ (Nat.le_refl _) (norefs_get cs h i hi)
 conv => rhs; rw [← List.map_id cs]
 exact List.map_congr_left this
theorem dcA_snap (hk : ∀ x, AV.norefs (kc x) = true) {M : Mem} : ∀ {ps : List (κ × List Int)} {s : Nat}, (∀ j p, ps[j]? = some p → mlook M (2000000 + (s + j)) = some (.arr 1 (p.2.map intC) true)) → (dcA kc ps s).map (fun c => c.map (AV.deep (snap M))) = ps.map (partC kc)
 | [], _, _ => rfl
 | p :: ps, s, h => by
   have h1 := h 0 p rfl;have h2 := dcA_snap hk (M := M) (ps := ps) (s := s + 1) fun j q hq => by
    have := h (j + 1) q (by simpa using hq)
    rwa [show s + (j + 1) = s + 1 + j by omega] at this
   rw [Nat.add_zero] at h1;rw [dcA, List.map_cons, h2, List.map_append, deep_norefs (hk p.1)];simp only [List.map_cons, List.map_nil, AV.deep, snap, h1, List.length_map, if_true]; rfl
theorem partC_norefs (hk : ∀ x, AV.norefs (kc x) = true) (ps : List (κ × List Int)) : (ps.map (partC kc)).all AV.norefs = true := by
 have app : ∀ cs : List AV, AV.norefs cs = true → ∀ d : AV, d.noref = true → AV.norefs (cs ++ [d]) = true := by
  intro cs
  induction cs with
  | nil => intro _ d hd; simp [AV.norefs, hd]
  | cons c cs ih =>
    intro h d hd;simp only [AV.norefs, Bool.and_eq_true, List.cons_append] at h ⊢;exact ⟨h.1, ih h.2 d hd⟩
 rw [List.all_eq_true];intro c hc;obtain ⟨p, _, rfl⟩ := List.mem_map.1 hc;refine app _ (hk p.1) _ ?_;have : (p.2.map intC).all AV.norefs = true := by simp [List.all_eq_true, intC, AV.norefs, AV.noref]
 simp [AV.noref, this]
end
theorem dvPut_ne {κ : Type} {eqB : κ → κ → Bool} {x : κ} {i : Int} (ps : List (κ × List Int)) : (dvPut eqB x i ps).isEmpty = false := by
 cases ps with
 | nil => rfl
 | cons p ps => rw [dvPut]; split <;> rfl
theorem dvL_ne {κ : Type} {eqB : κ → κ → Bool} {K : Int → κ} : ∀ (is : List Int) {ps : List (κ × List Int)}, ps.isEmpty = false → (dvL eqB K is ps).isEmpty = false
 | [], _, h => h
 | i :: is, ps, _ => dvL_ne is (dvPut_ne ps)
theorem dvL_empty {κ : Type} (eqB : κ → κ → Bool) (K : Int → κ) (who : List Int) : (dvL eqB K who []).isEmpty = who.isEmpty := by
 cases who with
 | nil => rfl
 | cons i is => exact dvL_ne is (dvPut_ne [])
set_option maxHeartbeats 4000000 in
theorem divided83_is (nl : Bool) (who : List Int) (c : Cp) (hw : who.length < 1000000) {g : FuncId} {caps : List AV} (hcn : AV.norefs caps = true) (K : Int → List Int)
  (hK : ∀ i ∈ who, PureIs prog g (.sc (.int .i64 i) :: caps) (.sl false ((K i).map intC) .unk)) (hKl : ∀ i ∈ who, (K i).length < 1000000) :
  PureIs prog 40 [.sl nl (who.map intC) c, .fn g caps, .fn 41 []] (.sl who.isEmpty ((dvL eqI K who []).map (partC keyI)) .unk) := by
 refine PureIs.of1 3 [6, 7, 9, 10, 11, 12, 13, 14, 15, 22, 23, 24, 33, 50, 52] func40 ntmps40 results40 fun _ => ?_;refine EvC.a ?_;refine EvC.scope ?_;refine EvC.a ?_;refine EvC.seq ?_;refine EvC.label ?_;refine EvC.seq ?_;refine EvC.a ?_;refine EvC.thaw 1 (by simp only [go_sem] <;> rfl) ?_;refine EvC.block ?_;refine EvC.loopS (σ := Nat × List (List Int × List Int)) (fun g2 => ⟨[(1, .fn g caps), (2, .fn 41 []), (7, .tl 0 g2.2.length g2.2.isEmpty), (12, .sl nl (who.map intC) c), (13, .sc (.int .i64 who.length)), (14, .sc (.int .i64 g2.1))], [], dM keyI 2 g2.2, 3000000⟩) (fun g2 => who.length - g2.1)
  (fun g2 => g2.1 ≤ who.length ∧ dvL eqI K who [] = dvL eqI K (who.drop g2.1) g2.2 ∧ g2.2.length ≤ g2.1 ∧ ∀ q ∈ g2.2, q.1.length < 1000000 ∧ q.2.length ≤ g2.1) [1, 2, 7, 12, 13, 14] 3000000 ?_ ?_
 ·exact ⟨[(1, 0)], (0, []), rfl, (by simp only [go_sem, Int.natCast_zero, dM, dRows, dcA, msegA, List.map_nil, List.length_nil, List.isEmpty_nil, hcn] <;> rfl), Nat.zero_le _, rfl, Nat.le_refl _, fun _ h => by cases h⟩
 rintro ⟨i, ps⟩ ⟨hi, hdv, hpl, hpq⟩;simp only at hi hdv hpl hpq ⊢;refine EvC.a ?_;refine EvC.seq ?_;refine EvC.cond (by simp only [go_sem] <;> rfl) (fun hc => ?_) (fun hc => ?_);rotate_left
 ·refine EvC.exit ?_;obtain rfl : who.length = i := by have : ¬ i < who.length := (by simpa using hc); omega
  rw [List.drop_length] at hdv;have hdv : dvL eqI K who [] = ps := hdv;have hp6 : ps.length ≤ 1000000 := by omega
  have hie : ps.isEmpty = who.isEmpty := by rw [← hdv]; exact dvL_empty eqI K who
  rw [hdv];have hrl : ∀ j p, ps[j]? = some p → mlook (dM keyI 2 ps) (2000000 + j) = some (.arr 1 (p.2.map intC) false) := fun j p hj => dM_lookR hj;refine EvC.ofzAll ps.length (fun j hj => ⟨1, _, false, hrl j _ (List.getElem?_eq_getElem hj), by simp [List.all_eq_true, intC, AV.norefs, AV.noref]⟩) ?_;have hfz : ofzAll ps.length (dM keyI 2 ps) = (0, .arr 2 (dcA keyI ps 0) false) :: dRowsF ps := by rw [dM, ofzAll_cons hp6 0 rfl, dRows_fz]
  have hsn : (dcA keyI ps 0).map (fun c => c.map (AV.deep (snap ((0, .arr 2 (dcA keyI ps 0) false) :: dRowsF ps)))) = ps.map (partC keyI) := dcA_snap keyI_norefs fun j p hj => by
   rw [Nat.zero_add];simp only [mlook];rw [if_neg (by omega), dRowsF_look hj]
  have hnr := partC_norefs (kc := keyI) keyI_norefs ps;have hpl2 : (ps.map (partC keyI)).length = ps.length := List.length_map _;have hmm := fun f => dRowsF_memMap f ps;refine EvC.snapA 0 (by simp only [go_sem, hfz, hsn] <;> rfl) ?_;rw [hie];generalize ps.map (partC keyI) = L at hnr hpl2 ⊢;refine EvC.frz 0 (by simp only [go_sem, hnr, hpl2] <;> rfl) ?_;refine EvC.a ?_ (by simp only [go_sem, hpl2] <;> rfl);refine EvC.rz ?_;simp only [go_sem]
 have hil : i < who.length := by simpa using hc
 have he : who[i]? = some who[i] := List.getElem?_eq_getElem hil;have hdr : who.drop i = who[i] :: who.drop (i + 1) := List.drop_eq_getElem_cons hil;have hmem := List.getElem_mem hil;have q := hK _ hmem;have hkl := hKl _ hmem;generalize who[i] = w at he hdr q hkl;clear hmem;rw [hdr, dvL] at hdv;generalize hx : K w = x at q hkl hdv;obtain ⟨iZ, hiZ⟩ : ∃ z : Int, z = (i : Int) := ⟨_, rfl⟩;have hit : iZ.toNat = i := by omega
 rw [← hiZ];refine EvC.skip ?_;refine EvC.seq ?_;refine EvC.block ?_;refine EvC.a ?_ (by simp only [go_sem, he, hit, intC] <;> rfl) (by simp; omega);apply EvC.s1
 ·apply Tr.run
  ·simp only [go_sem] <;> rfl
  ·simp
  apply Tr.cons
  ·exact .call rfl rfl (by simp only [go_sem] <;> rfl) (by simp only [go_sem] <;> rfl) (by simp only [go_sem] <;> rfl) (by simp only [go_sem, hcn] <;> rfl) (by simp only [go_sem] <;> rfl) (q)
  apply Tr.done
  ·simp only [go_sem] <;> rfl
  ·simp
 refine EvC.seq ?_;have hp6 : ps.length < 1000000 := by omega
 have hl0 := dM_look0 (kc := keyI) (e := 2) (ps := ps);have hdl := dcA_len keyI ps 0;refine EvC.a ?_ (by simp only [go_sem, hl0, hdl] <;> rfl);have hgk := dK_ok (n := ps.length) (by omega);have hhi := dK_hi (n := ps.length) (by omega);have hgc0 := dM_gc (e := 2) (M := dM keyI 2 ps) keyI_norefs (Nat.le_of_lt hp6) hl0 fun j p hj => dM_lookR hj;refine EvC.block ?_;refine EvC.loopS (σ := Nat) (fun n => ⟨[(1, .fn g caps), (2, .fn 41 []), (7, .tl 0 ps.length ps.isEmpty), (9, .sc (.int .i64 w)), (10, .sl false (x.map intC) .unk), (12, .sl nl (who.map intC) c), (13, .sc (.int .i64 who.length)), (14, .sc (.int .i64 iZ)), (22, .sc (.int .i64 ps.length)), (23, .sc (.int .i64 n))], [], dM keyI 2 ps, 3000000⟩) (fun n => ps.length - n)
  (fun n => n ≤ ps.length ∧ ∀ j q, j < n → ps[j]? = some q → eqI q.1 x = false) [1, 2, 7, 9, 10, 12, 13, 14, 22, 23] 3000000 ?_ ?_
 ·exact ⟨dK ps.length, 0, hgk, (by simp only [go_sem, Int.natCast_zero, hhi, hcn, hgc0] <;> rfl), Nat.zero_le _, fun j q h => absurd h (Nat.not_lt_zero _)⟩
 rintro n ⟨hn, hno⟩;refine EvC.a ?_;refine EvC.seq ?_;refine EvC.cond (by simp only [go_sem] <;> rfl) (fun hc => ?_) (fun hc => ?_);rotate_left
 ·refine EvC.exit ?_;obtain rfl : ps.length = n := by have : ¬ n < ps.length := (by simpa using hc); omega
  have hnew := dvPut_new (eqB := eqI) (x := x) (i := w) (ps := ps) fun q hq => by
   obtain ⟨j, hj, rfl⟩ := List.getElem_of_mem hq;exact hno j _ hj (List.getElem?_eq_getElem hj)
  rw [hnew] at hdv;have hr2 : room (ps.length + 1) 48 = true := by simp only [room_eq, decide_eq_true_eq]; omega
  refine EvC.b ?_ (by simp only [go_sem, hl0, hdl] <;> rfl) (by simp [hr2]);obtain ⟨MM, hMM⟩ : ∃ MM : Mem, MM = (3000006, RObj.arr 2 [[.sl false (x.map intC) .unk, .tl 3000004 1 false]] false) :: (3000004, .arr 1 [[.sc (.int .i64 w)]] false) :: mset (dM keyI 2 ps) 0 (.arr 2 (dcA keyI ps 0 ++ [[.sl false (x.map intC) .unk, .tl 3000004 1 false]]) false) := ⟨_, rfl⟩;rw [← hMM];refine EvC.b ?_ (hok := by exact inI64_of (by omega) (by omega));have hgk1 := dK1_ok (n := ps.length) (k := 3000004) hp6 rfl (by omega);have hhi1 := dK1_hi (n := ps.length) (k0 := 3000004) (by omega);have hgc1 := dM_gc1 (e := 2) (M := MM) (k := 3000004) (x := x) (l := [w]) keyI_norefs hp6 rfl (by omega) (by
   rw [hMM]; simp only [mlook]; rw [if_neg (by omega), if_neg (by omega), mlook_mset, if_pos rfl]; rfl) (fun j p hj => by
   have hjl := (List.getElem?_eq_some_iff.1 hj).1;rw [hMM]; simp only [mlook]; rw [if_neg (by omega), if_neg (by omega), mlook_mset, if_neg (by omega), dM_lookR hj]) (by
   rw [hMM]; rfl)
  have hsl : ps.length + 1 = (ps ++ [(x, [w])]).length := by simp
  have hse : (ps ++ [(x, [w])]).isEmpty = false := by simp
  have hqq : ∀ q ∈ ps ++ [(x, [w])], q.1.length < 1000000 ∧ q.2.length ≤ i + 1 := fun q hq => by
   rcases List.mem_append.1 hq with hq | hq
   ·have := hpq q hq; omega
   ·obtain rfl := List.mem_singleton.1 hq;exact ⟨hkl, by simp⟩
  generalize ps ++ [(x, [w])] = T at hgc1 hsl hse hdv hqq;exact ⟨dK1 ps.length 3000004, (i + 1, T), hgk1, (by rw [hiZ]; simp only [go_sem, hhi1, hgc1, hcn, hsl, hse, Int.natCast_add, Int.natCast_one] <;> rfl), ⟨hil, hdv, by simp only; omega, hqq⟩, by simp only; omega⟩
 have hnl : n < ps.length := by simpa using hc
 clear hc;have hpe : ps[n]? = some ps[n] := List.getElem?_eq_getElem hnl;have hpm := hpq _ (List.getElem_mem hnl);generalize ps[n] = p at hpe hpm;obtain ⟨px, pw⟩ := p;simp only at hpm;have hg := dcA_get keyI (s := 0) hpe;rw [Nat.zero_add] at hg;simp only [keyI, List.cons_append, List.nil_append] at hg;obtain ⟨nZ, hnZ⟩ : ∃ z : Int, z = (n : Int) := ⟨_, rfl⟩;have hnt : nZ.toNat = n := by omega
 rw [← hnZ];refine EvC.skip ?_;refine EvC.seq ?_;refine EvC.block ?_;refine EvC.a ?_;have q2 := equal53_is false false px x .unk .unk hpm.1;refine EvC.k1 ?_ (h1 := by simp only [go_sem, hl0, hdl, hg, hnt] <;> rfl) (k1 := by simp; omega) (c1 := .ca q2);by_cases hpx : px = x;rotate_left
 ·refine EvC.cs ?_ (by simp only [go_sem, decide_eq_false hpx] <;> rfl);refine EvC.b ?_ (hok := by exact inI64_of (by omega) (by omega));refine ⟨dK ps.length, n + 1, hgk, (by rw [hnZ]; simp only [go_sem, hhi, hcn, hgc0, Int.natCast_add, Int.natCast_one] <;> rfl), ⟨hnl, fun j q hj hq => ?_⟩, by omega⟩;by_cases hjn : j = n
  ·subst hjn; rw [hpe] at hq; cases hq; exact decide_eq_false hpx
  ·exact hno j q (by omega) hq
 refine EvC.ct ?_ (by simp only [go_sem, decide_eq_true hpx] <;> rfl);have hset := dvPut_set (eqB := eqI) (x := x) (i := w) (ps := ps) (n := n) hno hpe (decide_eq_true hpx);rw [hset] at hdv;have hn6 : n < 1000000 := by omega
 have hlr := dM_lookR (kc := keyI) (e := 2) hpe;have hr3 : room (pw.length + 1) 8 = true := by simp only [room_eq, decide_eq_true_eq]; omega
 have hl00 : ∀ o, mlook (mset (dM keyI 2 ps) (2000000 + n) o) 0 = some (.arr 2 (dcA keyI ps 0) false) := fun o => by rw [mlook_mset, if_neg (by omega)]; exact hl0
 have hlrs : ∀ o, mlook (mset (dM keyI 2 ps) (2000000 + n) o) (2000000 + n) = some o := fun o => by rw [mlook_mset, if_pos rfl]
 have hds := dcA_set keyI (s := 0) (pw ++ [w]) hpe;have hpl3 : (pw ++ [w]).length = pw.length + 1 := by simp
 rw [Nat.zero_add, hpl3] at hds;simp only [keyI, List.cons_append, List.nil_append] at hds;have hnl2 : notO (2000000 + n) = false := by unfold notO; simp; omega
 refine EvC.a ?_ (by simp only [go_sem, hl0, hl00, hlrs, hdl, hg, hnt, hlr, o_ne hn6, List.length_map, hds] <;> rfl) (by simp [hr3, acell, hnl, hlrs]; try omega);obtain ⟨MM, hMM⟩ : ∃ MM : Mem, MM = mset (mset (dM keyI 2 ps) (2000000 + n) (.arr 1 (pw.map intC ++ [[.sc (.int .i64 w)]]) false)) 0 (.arr 2 (dcA keyI (ps.set n (px, pw ++ [w])) 0) false) := ⟨_, rfl⟩;rw [← hMM];refine EvC.exit ?_;have hTl : (ps.set n (px, pw ++ [w])).length = ps.length := List.length_set;have hM0 : mlook MM 0 = some (.arr 2 (dcA keyI (ps.set n (px, pw ++ [w])) 0) false) := by rw [hMM, mlook_mset, if_pos rfl]
 have hMr : ∀ j p, (ps.set n (px, pw ++ [w]))[j]? = some p → mlook MM (2000000 + j) = some (.arr 1 (p.2.map intC) false) := fun j p hj => by
  rw [hMM, mlook_mset, if_neg (by omega), mlook_mset];rw [List.getElem?_set] at hj;by_cases e : n = j
  ·subst e;rw [if_pos rfl, if_pos hnl] at hj;cases hj;rw [if_pos rfl]; simp [intC]
  ·rw [if_neg e] at hj;rw [if_neg (by omega), dM_lookR hj]
 have hTe : (ps.set n (px, pw ++ [w])).isEmpty = ps.isEmpty := by
  cases ps with
  | nil => rfl
  | cons a b => cases n <;> rfl
 have hTq : ∀ q ∈ ps.set n (px, pw ++ [w]), q.1.length < 1000000 ∧ q.2.length ≤ i + 1 := fun q hq => by
  rcases List.mem_or_eq_of_mem_set hq with hq | rfl
  ·have := hpq q hq; omega
  ·refine ⟨hpm.1, ?_⟩;simp only [List.length_append, List.length_cons, List.length_nil]; omega
 have hgcT := dM_gc (e := 2) (M := MM) (ps := ps.set n (px, pw ++ [w])) keyI_norefs (by omega) hM0 hMr;rw [hTl] at hgcT;clear hMM;generalize ps.set n (px, pw ++ [w]) = T at hTl hgcT hTe hdv hTq;refine EvC.b ?_ (hok := by exact inI64_of (by omega) (by omega));exact ⟨dK ps.length, (i + 1, T), hgk, (by rw [hiZ]; simp only [go_sem, hhi, hgcT, hcn, hTl, hTe, Int.natCast_add, Int.natCast_one] <;> rfl), ⟨hil, hdv, by simp only; omega, hTq⟩, by simp only; omega⟩
def eqM (a b : Mach) : Bool := (equalR a b).1
set_option maxHeartbeats 4000000 in
theorem divided43_is (nl : Bool) (who : List Int) (c : Cp) (hw : who.length < 1000000) {g : FuncId} {caps : List AV} (hcn : AV.norefs caps = true) (K : Int → Mach)
  (hK : ∀ i ∈ who, PureIs prog g (.sc (.int .i64 i) :: caps) (.ag (K i).cells)) (hKl : ∀ i ∈ who, ∀ r ∈ (K i).rows, r.2.length < 1000000) :
  PureIs prog 52 [.sl nl (who.map intC) c, .fn g caps, .fn 54 []] (.sl who.isEmpty ((dvL eqM K who []).map (partC Mach.cells)) .unk) := by
 refine PureIs.of1 3 [6, 7, 9, 10, 11, 12, 13, 14, 15, 22, 23, 24, 33, 50, 52] func52 ntmps52 results52 fun _ => ?_;refine EvC.a ?_;refine EvC.scope ?_;refine EvC.a ?_;refine EvC.seq ?_;refine EvC.label ?_;refine EvC.seq ?_;refine EvC.a ?_;refine EvC.thaw 1 (by simp only [go_sem] <;> rfl) ?_;refine EvC.block ?_;refine EvC.loopS (σ := Nat × List (Mach × List Int)) (fun g2 => ⟨[(1, .fn g caps), (2, .fn 54 []), (7, .tl 0 g2.2.length g2.2.isEmpty), (12, .sl nl (who.map intC) c), (13, .sc (.int .i64 who.length)), (14, .sc (.int .i64 g2.1))], [], dM Mach.cells 4 g2.2, 3000000⟩) (fun g2 => who.length - g2.1)
  (fun g2 => g2.1 ≤ who.length ∧ dvL eqM K who [] = dvL eqM K (who.drop g2.1) g2.2 ∧ g2.2.length ≤ g2.1 ∧ ∀ q ∈ g2.2, (∀ r ∈ q.1.rows, r.2.length < 1000000) ∧ q.2.length ≤ g2.1) [1, 2, 7, 12, 13, 14] 3000000 ?_ ?_
 ·exact ⟨[(1, 0)], (0, []), rfl, (by simp only [go_sem, Int.natCast_zero, dM, dRows, dcA, msegA, List.map_nil, List.length_nil, List.isEmpty_nil, hcn] <;> rfl), Nat.zero_le _, rfl, Nat.le_refl _, fun _ h => by cases h⟩
 rintro ⟨i, ps⟩ ⟨hi, hdv, hpl, hpq⟩;simp only at hi hdv hpl hpq ⊢;refine EvC.a ?_;refine EvC.seq ?_;refine EvC.cond (by simp only [go_sem] <;> rfl) (fun hc => ?_) (fun hc => ?_);rotate_left
 ·refine EvC.exit ?_;obtain rfl : who.length = i := by have : ¬ i < who.length := (by simpa using hc); omega
  rw [List.drop_length] at hdv;have hdv : dvL eqM K who [] = ps := hdv;have hp6 : ps.length ≤ 1000000 := by omega
  have hie : ps.isEmpty = who.isEmpty := by rw [← hdv]; exact dvL_empty eqM K who
  rw [hdv];have hrl : ∀ j p, ps[j]? = some p → mlook (dM Mach.cells 4 ps) (2000000 + j) = some (.arr 1 (p.2.map intC) false) := fun j p hj => dM_lookR hj;refine EvC.ofzAll ps.length (fun j hj => ⟨1, _, false, hrl j _ (List.getElem?_eq_getElem hj), by simp [List.all_eq_true, intC, AV.norefs, AV.noref]⟩) ?_;have hfz : ofzAll ps.length (dM Mach.cells 4 ps) = (0, .arr 4 (dcA Mach.cells ps 0) false) :: dRowsF ps := by rw [dM, ofzAll_cons hp6 0 rfl, dRows_fz]
  have hsn : (dcA Mach.cells ps 0).map (fun c => c.map (AV.deep (snap ((0, .arr 4 (dcA Mach.cells ps 0) false) :: dRowsF ps)))) = ps.map (partC Mach.cells) := dcA_snap norefs_mcells fun j p hj => by
   rw [Nat.zero_add];simp only [mlook];rw [if_neg (by omega), dRowsF_look hj]
  have hnr := partC_norefs (kc := Mach.cells) norefs_mcells ps;have hpl2 : (ps.map (partC Mach.cells)).length = ps.length := List.length_map _;have hmm := fun f => dRowsF_memMap f ps;refine EvC.snapA 0 (by simp only [go_sem, hfz, hsn] <;> rfl) ?_;rw [hie];generalize ps.map (partC Mach.cells) = L at hnr hpl2 ⊢;refine EvC.frz 0 (by simp only [go_sem, hnr, hpl2] <;> rfl) ?_;refine EvC.a ?_ (by simp only [go_sem, hpl2] <;> rfl);refine EvC.rz ?_;simp only [go_sem]
 have hil : i < who.length := by simpa using hc
 have he : who[i]? = some who[i] := List.getElem?_eq_getElem hil;have hdr : who.drop i = who[i] :: who.drop (i + 1) := List.drop_eq_getElem_cons hil;have hmem := List.getElem_mem hil;have q := hK _ hmem;have hkl := hKl _ hmem;generalize who[i] = w at he hdr q hkl;clear hmem;rw [hdr, dvL] at hdv;generalize hx : K w = x at q hkl hdv;obtain ⟨iZ, hiZ⟩ : ∃ z : Int, z = (i : Int) := ⟨_, rfl⟩;have hit : iZ.toNat = i := by omega
 rw [← hiZ];refine EvC.skip ?_;refine EvC.seq ?_;refine EvC.block ?_;refine EvC.a ?_ (by simp only [go_sem, he, hit, intC] <;> rfl) (by simp; omega);have hdn := dM_none (kc := Mach.cells) (e := 4) (ps := ps) (k := 3000007) (by omega) rfl (by omega);have hdm : ∀ o, mdel (mset (dM Mach.cells 4 ps) 3000007 o) 3000007 = dM Mach.cells 4 ps := fun o => mdel_mset_none hdn;have hlm : ∀ o, mlook (mset (dM Mach.cells 4 ps) 3000007 o) 3000007 = some o := fun o => by rw [mlook_mset, if_pos rfl]
 apply EvC.s1
 ·apply Tr.run
  ·simp only [go_sem] <;> rfl
  ·simp
  apply Tr.cons
  ·exact .call rfl rfl (by simp only [go_sem] <;> rfl) (by simp only [go_sem] <;> rfl) (by simp only [go_sem] <;> rfl) (by simp only [go_sem, hcn] <;> rfl) (by simp only [go_sem] <;> rfl) (q)
  apply Tr.done
  ·simp only [go_sem, Mach.cells, hlm, mset_mset_same] <;> rfl
  ·simp
 refine EvC.z 3000007 ?_ (by simp only [go_sem, hlm, hdm] <;> rfl);refine EvC.seq ?_;have hp6 : ps.length < 1000000 := by omega
 have hl0 := dM_look0 (kc := Mach.cells) (e := 4) (ps := ps);have hdl := dcA_len Mach.cells ps 0;refine EvC.a ?_ (by simp only [go_sem, hl0, hdl] <;> rfl);have hgk := dK_ok (n := ps.length) (by omega);have hhi := dK_hi (n := ps.length) (by omega);have hgc0 := dM_gc (e := 4) (M := dM Mach.cells 4 ps) norefs_mcells (Nat.le_of_lt hp6) hl0 fun j p hj => dM_lookR hj;refine EvC.block ?_;refine EvC.loopS (σ := Nat) (fun n => ⟨[(1, .fn g caps), (2, .fn 54 []), (7, .tl 0 ps.length ps.isEmpty), (9, .sc (.int .i64 w)), (10, .ia x.cells), (12, .sl nl (who.map intC) c), (13, .sc (.int .i64 who.length)), (14, .sc (.int .i64 iZ)), (22, .sc (.int .i64 ps.length)), (23, .sc (.int .i64 n))], [], dM Mach.cells 4 ps, 3000000⟩) (fun n => ps.length - n)
  (fun n => n ≤ ps.length ∧ ∀ j q, j < n → ps[j]? = some q → eqM q.1 x = false) [1, 2, 7, 9, 10, 12, 13, 14, 22, 23] 3000000 ?_ ?_
 ·exact ⟨dK ps.length, 0, hgk, (by simp only [go_sem, Int.natCast_zero, hhi, hcn, hgc0, deeps_toIa hcn, Mach.cells] <;> rfl), Nat.zero_le _, fun j q h => absurd h (Nat.not_lt_zero _)⟩
 rintro n ⟨hn, hno⟩;refine EvC.a ?_;refine EvC.seq ?_;refine EvC.cond (by simp only [go_sem] <;> rfl) (fun hc => ?_) (fun hc => ?_);rotate_left
 ·refine EvC.exit ?_;obtain rfl : ps.length = n := by have : ¬ n < ps.length := (by simpa using hc); omega
  have hnew := dvPut_new (eqB := eqM) (x := x) (i := w) (ps := ps) fun q hq => by
   obtain ⟨j, hj, rfl⟩ := List.getElem_of_mem hq;exact hno j _ hj (List.getElem?_eq_getElem hj)
  rw [hnew] at hdv;have hr2 : room (ps.length + 1) 64 = true := by simp only [room_eq, decide_eq_true_eq]; omega
  refine EvC.b ?_ (by simp only [go_sem, hl0, hdl, Mach.cells] <;> rfl) (by simp [hr2]);obtain ⟨MM, hMM⟩ : ∃ MM : Mem, MM = (3000006, RObj.arr 4 [[.sc (.int .i64 x.ins), .sc (.int .i64 x.outs), .sl x.nl (x.rows.map rowC) .unk, .tl 3000004 1 false]] false) :: (3000004, .arr 1 [[.sc (.int .i64 w)]] false) :: mset (dM Mach.cells 4 ps) 0 (.arr 4 (dcA Mach.cells ps 0 ++ [[.sc (.int .i64 x.ins), .sc (.int .i64 x.outs), .sl x.nl (x.rows.map rowC) .unk, .tl 3000004 1 false]]) false) := ⟨_, rfl⟩;rw [← hMM];refine EvC.b ?_ (hok := by exact inI64_of (by omega) (by omega));have hgk1 := dK1_ok (n := ps.length) (k := 3000004) hp6 rfl (by omega);have hhi1 := dK1_hi (n := ps.length) (k0 := 3000004) (by omega);have hgc1 := dM_gc1 (e := 4) (M := MM) (k := 3000004) (x := x) (l := [w]) norefs_mcells hp6 rfl (by omega) (by
   rw [hMM]; simp only [mlook]; rw [if_neg (by omega), if_neg (by omega), mlook_mset, if_pos rfl]; rfl) (fun j p hj => by
   have hjl := (List.getElem?_eq_some_iff.1 hj).1;rw [hMM]; simp only [mlook]; rw [if_neg (by omega), if_neg (by omega), mlook_mset, if_neg (by omega), dM_lookR hj]) (by
   rw [hMM]; rfl)
  have hsl : ps.length + 1 = (ps ++ [(x, [w])]).length := by simp
  have hse : (ps ++ [(x, [w])]).isEmpty = false := by simp
  have hqq : ∀ q ∈ ps ++ [(x, [w])], (∀ r ∈ q.1.rows, r.2.length < 1000000) ∧ q.2.length ≤ i + 1 := fun q hq => by
   rcases List.mem_append.1 hq with hq | hq
   ·exact ⟨(hpq q hq).1, by have := (hpq q hq).2; omega⟩
   ·obtain rfl := List.mem_singleton.1 hq;exact ⟨hkl, by simp⟩
  generalize ps ++ [(x, [w])] = T at hgc1 hsl hse hdv hqq;exact ⟨dK1 ps.length 3000004, (i + 1, T), hgk1, (by rw [hiZ]; simp only [go_sem, hhi1, hgc1, hcn, hsl, hse, Int.natCast_add, Int.natCast_one] <;> rfl), ⟨hil, hdv, by simp only; omega, hqq⟩, by simp only; omega⟩
 have hnl : n < ps.length := by simpa using hc
 clear hc;have hpe : ps[n]? = some ps[n] := List.getElem?_eq_getElem hnl;have hpm := hpq _ (List.getElem_mem hnl);generalize ps[n] = p at hpe hpm;obtain ⟨px, pw⟩ := p;simp only at hpm;have hg := dcA_get Mach.cells (s := 0) hpe;rw [Nat.zero_add] at hg;simp only [Mach.cells, List.cons_append, List.nil_append] at hg;obtain ⟨nZ, hnZ⟩ : ∃ z : Int, z = (n : Int) := ⟨_, rfl⟩;have hnt : nZ.toNat = n := by omega
 rw [← hnZ];refine EvC.skip ?_;refine EvC.seq ?_;refine EvC.block ?_;refine EvC.a ?_;have q2 := alike_is px x hpm.1 hkl;refine EvC.k1D mixed ?_ (h1 := by simp only [go_sem, hl0, hdl, hg, hnt, Mach.cells] <;> rfl) (k1 := by simp; omega) (c1 := .ca q2);obtain hpx | hpx : eqM px x = false ∨ eqM px x = true := by cases eqM px x <;> simp
 ·refine EvC.cs ?_ (by simp only [go_sem, show (equalR px x).1 = false from hpx] <;> rfl);refine EvC.b ?_ (hok := by exact inI64_of (by omega) (by omega));refine ⟨dK ps.length, n + 1, hgk, (by rw [hnZ]; simp only [go_sem, hhi, hcn, hgc0, Int.natCast_add, Int.natCast_one] <;> rfl), ⟨hnl, fun j q hj hq => ?_⟩, by omega⟩;by_cases hjn : j = n
  ·subst hjn; rw [hpe] at hq; cases hq; exact hpx
  ·exact hno j q (by omega) hq
 refine EvC.ct ?_ (by simp only [go_sem, show (equalR px x).1 = true from hpx] <;> rfl);have hset := dvPut_set (eqB := eqM) (x := x) (i := w) (ps := ps) (n := n) hno hpe hpx;rw [hset] at hdv;have hn6 : n < 1000000 := by omega
 have hlr := dM_lookR (kc := Mach.cells) (e := 4) hpe;have hr3 : room (pw.length + 1) 8 = true := by simp only [room_eq, decide_eq_true_eq]; omega
 have hl00 : ∀ o, mlook (mset (dM Mach.cells 4 ps) (2000000 + n) o) 0 = some (.arr 4 (dcA Mach.cells ps 0) false) := fun o => by rw [mlook_mset, if_neg (by omega)]; exact hl0
 have hlrs : ∀ o, mlook (mset (dM Mach.cells 4 ps) (2000000 + n) o) (2000000 + n) = some o := fun o => by rw [mlook_mset, if_pos rfl]
 have hds := dcA_set Mach.cells (s := 0) (pw ++ [w]) hpe;have hpl3 : (pw ++ [w]).length = pw.length + 1 := by simp
 rw [Nat.zero_add, hpl3] at hds;simp only [Mach.cells, List.cons_append, List.nil_append] at hds;have hnl2 : notO (2000000 + n) = false := by unfold notO; simp; omega
 refine EvC.a ?_ (by simp only [go_sem, hl0, hl00, hlrs, hdl, hg, hnt, hlr, o_ne hn6, List.length_map, hds] <;> rfl) (by simp [hr3, acell, hnl, hlrs]; try omega);obtain ⟨MM, hMM⟩ : ∃ MM : Mem, MM = mset (mset (dM Mach.cells 4 ps) (2000000 + n) (.arr 1 (pw.map intC ++ [[.sc (.int .i64 w)]]) false)) 0 (.arr 4 (dcA Mach.cells (ps.set n (px, pw ++ [w])) 0) false) := ⟨_, rfl⟩;rw [← hMM];refine EvC.exit ?_;have hTl : (ps.set n (px, pw ++ [w])).length = ps.length := List.length_set;have hM0 : mlook MM 0 = some (.arr 4 (dcA Mach.cells (ps.set n (px, pw ++ [w])) 0) false) := by rw [hMM, mlook_mset, if_pos rfl]
 have hMr : ∀ j p, (ps.set n (px, pw ++ [w]))[j]? = some p → mlook MM (2000000 + j) = some (.arr 1 (p.2.map intC) false) := fun j p hj => by
  rw [hMM, mlook_mset, if_neg (by omega), mlook_mset];rw [List.getElem?_set] at hj;by_cases e : n = j
  ·subst e;rw [if_pos rfl, if_pos hnl] at hj;cases hj;rw [if_pos rfl]; simp [intC]
  ·rw [if_neg e] at hj;rw [if_neg (by omega), dM_lookR hj]
 have hTe : (ps.set n (px, pw ++ [w])).isEmpty = ps.isEmpty := by
  cases ps with
  | nil => rfl
  | cons a b => cases n <;> rfl
 have hTq : ∀ q ∈ ps.set n (px, pw ++ [w]), (∀ r ∈ q.1.rows, r.2.length < 1000000) ∧ q.2.length ≤ i + 1 := fun q hq => by
  rcases List.mem_or_eq_of_mem_set hq with hq | rfl
  ·exact ⟨(hpq q hq).1, by have := (hpq q hq).2; omega⟩
  ·refine ⟨hpm.1, ?_⟩;simp only [List.length_append, List.length_cons, List.length_nil]; omega
 have hgcT := dM_gc (e := 4) (M := MM) (ps := ps.set n (px, pw ++ [w])) norefs_mcells (by omega) hM0 hMr;rw [hTl] at hgcT;clear hMM;generalize ps.set n (px, pw ++ [w]) = T at hTl hgcT hTe hdv hTq;refine EvC.b ?_ (hok := by exact inI64_of (by omega) (by omega));exact ⟨dK ps.length, (i + 1, T), hgk, (by rw [hiZ]; simp only [go_sem, hhi, hgcT, hcn, hTl, hTe, Int.natCast_add, Int.natCast_one] <;> rfl), ⟨hil, hdv, by simp only; omega, hTq⟩, by simp only; omega⟩
def m00 : Mach := ⟨0, 0, true, []⟩
def atM (X : List Mach) (i : Int) : Mach := X.getD i.toNat m00
theorem atM_get {X : List Mach} {i : Int} (h : i.toNat < X.length) : (X.map Mach.cells)[i.toNat]? = some (atM X i).cells := by
 rw [List.getElem?_map, List.getElem?_eq_getElem h, atM, List.getD_eq_getElem?_getD, List.getElem?_eq_getElem h]; rfl
theorem responses1_is (xn : Bool) (X : List Mach) (xc : Cp) (wn : Bool) (w : List Int) (wc : Cp) (i : Int) (hi : 0 ≤ i ∧ i < X.length) (hv : Valid (atM X i)) (hw : wordErr (atM X i).ins w = 0) (hl : w.length < 1000000) :
  PureIs prog 38 [.sc (.int .i64 i), .ia [.sl xn (X.map Mach.cells) xc], .ia [.sl wn (w.map intC) wc]] (.sl false ((runR (atM X i) 0 w).map intC) .unk) := by
 have hx := atM_get (X := X) (i := i) (by omega);have hr := hv.rows;have q := run52_is hv 0 ⟨by omega, by omega⟩ wn w wc hw hl;generalize atM X i = m at hx q;refine PureIs.of1 3 [4, 5, 6, 7] func38 ntmps38 results38 fun _ => ?_;refine EvC.a ?_;refine EvC.k1D mixed ?_ (h1 := by simp only [go_sem, hx, Mach.cells, List.length_map] <;> rfl) (k1 := by simp; omega) (c1 := .ca q);refine EvC.a ?_;refine EvC.rz ?_;simp only [go_sem]
def respK (X : List Mach) (w : List Int) (i : Int) : List Int := runR (atM X i) 0 w
theorem responses_is (xn : Bool) (X : List Mach) (xc : Cp) (whn : Bool) (who : List Int) (whc : Cp) (wn : Bool) (w : List Int) (wc : Cp) (hwho : ∀ i ∈ who, 0 ≤ i ∧ i < X.length) (hv : ∀ m ∈ X, Valid m) (hw : ∀ m ∈ X, wordErr m.ins w = 0) (hl : w.length < 1000000) (hwl : who.length < 1000000) :
  PureIs prog 17 [.sl xn (X.map Mach.cells) xc, .sl whn (who.map intC) whc, .sl wn (w.map intC) wc] (.sl who.isEmpty ((dvL eqI (respK X w) who []).map (partC keyI)) .unk) := by
 have hXn := norefs_machs X;have hin : ∀ i ∈ who, atM X i ∈ X := fun i hi => by
  have h := hwho i hi;rw [atM, List.getD_eq_getElem?_getD, List.getElem?_eq_getElem (show i.toNat < X.length by omega)];exact List.getElem_mem _
 have q := divided83_is whn who whc hwl (g := 38) (caps := [.ia [.sl xn (X.map Mach.cells) xc], .ia [.sl wn (w.map intC) wc]]) (by simp [AV.norefs, AV.noref, hXn, intC]) (respK X w)
  (fun i hi => responses1_is xn X xc wn w wc i (hwho i hi) (hv _ (hin i hi)) (hw _ (hin i hi)) hl) (fun i hi => by rw [respK, runR_len]; exact hl)
 refine PureIs.of1 3 [3, 5, 6, 7] func17 ntmps17 results17 fun _ => ?_;refine EvC.a ?_;refine EvC.z 0 ?_ (by simp only [go_sem, hXn] <;> rfl);refine EvC.z 1 ?_;refine EvC.a ?_;apply EvC.s1
 ·apply Tr.run
  ·simp only [go_sem] <;> rfl
  ·simp
  apply Tr.cons
  ·exact .call rfl rfl (by simp only [go_sem] <;> rfl) (by simp only [go_sem] <;> rfl) (by simp only [go_sem] <;> rfl) (by simp only [go_sem, hXn] <;> rfl) (by simp only [go_sem] <;> rfl) (q)
  apply Tr.done
  ·simp only [go_sem] <;> rfl
  ·simp
 refine EvC.rz ?_;simp only [go_sem]
section
variable (F : Nat → List AV) (d : List AV)
def fillC (n k : Nat) : List (List AV) := (List.range n).map fun i => if i < k then F i else d
theorem fillC_zero (n : Nat) : fillC F d n 0 = List.replicate n d := by
 apply List.ext_getElem
 ·simp [fillC]
 ·intro i h1 h2; simp [fillC]
theorem fillC_len (n k : Nat) : (fillC F d n k).length = n := by simp [fillC]
theorem fillC_get {n k : Nat} (h : k < n) : (fillC F d n k)[k]? = some d := by
 rw [List.getElem?_eq_getElem (by rw [fillC_len]; exact h)];simp [fillC]
theorem fillC_set {n k : Nat} (h : k < n) : (fillC F d n k).set k (F k) = fillC F d n (k + 1) := by
 apply List.ext_getElem
 ·simp [fillC]
 ·intro i h1 h2;simp only [fillC, List.getElem_set, List.getElem_map, List.getElem_range];by_cases e : k = i
  ·subst e; simp
  ·rw [if_neg e];by_cases h3 : i < k
   ·rw [if_pos h3, if_pos (by omega)]
   ·rw [if_neg h3, if_neg (by omega)]
theorem fillC_all (n : Nat) : fillC F d n n = (List.range n).map F := List.map_congr_left fun i hi => by rw [if_pos (List.mem_range.1 hi)]
theorem fillC_norefs {F : Nat → List AV} {d : List AV} (hF : ∀ i, AV.norefs (F i) = true) (hd : AV.norefs d = true) (n k : Nat) : (fillC F d n k).all AV.norefs = true := by
 rw [List.all_eq_true];intro c hc;obtain ⟨i, _, rfl⟩ := List.mem_map.1 hc;split
 ·exact hF i
 ·exact hd
end
theorem range_getD {α : Type} (l : List α) (x : α) : (List.range l.length).map (fun i => l.getD i x) = l := by
 apply List.ext_getElem
 ·simp
 ·intro i h1 h2;have : i < l.length := by simpa using h1
  simp [List.getElem?_eq_getElem this]
theorem dvL_len {κ : Type} {eqB : κ → κ → Bool} {K : Int → κ} : ∀ (is : List Int) (ps : List (κ × List Int)), (dvL eqB K is ps).length ≤ ps.length + is.length
 | [], ps => Nat.le_refl _
 | i :: is, ps => by
   have h1 := dvL_len (eqB := eqB) (K := K) is (dvPut eqB (K i) i ps);have h2 := dvPut_len (eqB := eqB) (x := K i) (i := i) (ps := ps);rw [dvL, List.length_cons]; omega
def classL (X : List Mach) (n : Nat) : List (List Int) := (dvL eqM (atM X) (idL n) []).map (·.2)
def clsA (m : Mach) (fs : List FA) : AV :=
 if mutErr m fs = 0 then .tu [.sl false ((classL (fs.map (mutF m)) fs.length).map fun l => [.sl false (l.map intC) .full]) .full, .sc (.int .i64 0)] else .tu [.sl true [] .unk, .sc (.int .i64 (mutErr m fs))]
theorem mutsA_valid {m : Mach} {fs : List FA} (h : mutErr m fs = 0) : ∀ x ∈ fs.map (mutF m), Valid x := by
 obtain ⟨h1, h2, h3⟩ := mutErr_ok h;intro x hx;obtain ⟨f, hf, rfl⟩ := List.mem_map.1 hx;exact mutF_valid (Valid.of h1) (errFs_zero h3 f hf)
theorem classes_is (m : Mach) (hm : ∀ r ∈ m.rows, r.2.length < 1000000) (hnn : NoNil m) (fn : Bool) (fs : List FA) (fc : Cp) (hfl : fs.length < 1000000) :
  PureIs prog 26 [.ag m.cells, .sl fn (fs.map FA.cells) fc] (clsA m fs) := by
 refine PureIs.of1 3 [4, 5, 6, 7, 8, 9, 10, 11, 19, 28, 29, 30, 31, 32] func26 ntmps26 results26 fun _ => ?_;refine EvC.a ?_ (by simp only [go_sem, Mach.cells] <;> rfl);refine EvC.z 0 ?_;have q := mutants_is m hm hnn fn fs fc hfl;unfold mutsA at q;unfold clsA;by_cases h0 : mutErr m fs = 0;rotate_left
 ·rw [if_neg h0] at q ⊢;refine EvC.k1 ?_ (h1 := by simp only [go_sem, Mach.cells] <;> rfl) (c1 := .ca q);refine EvC.seq ?_;refine EvC.a ?_;refine EvC.ct ?_ (by simp only [go_sem, decide_eq_false h0] <;> rfl);refine EvC.a ?_;refine EvC.rz ?_;simp only [go_sem]
 rw [if_pos h0] at q ⊢;have hXv := mutsA_valid h0;have hXl : (fs.map (mutF m)).length = fs.length := List.length_map _;generalize fs.map (mutF m) = X at q hXv hXl ⊢;have hXn := norefs_machs X;have hfl2 := (mutErr_ok h0).2.1;refine EvC.k1 ?_ (h1 := by simp only [go_sem, Mach.cells] <;> rfl) (c1 := .ca q) (h2 := by simp only [go_sem, hXn] <;> rfl);refine EvC.z 9 ?_ (by simp only [go_sem, hXn] <;> rfl);refine EvC.seq ?_;refine EvC.a ?_;refine EvC.cs ?_;have hidm : ∀ i ∈ idL fs.length, 0 ≤ i ∧ i < fs.length := fun i hi => by
  obtain ⟨j, hj, rfl⟩ := List.mem_map.1 hi;have := List.mem_range.1 hj;exact ⟨Int.natCast_nonneg j, Int.ofNat_lt.2 this⟩
 have hidl : (idL fs.length).length = fs.length := by simp [idL]
 have hin : ∀ i ∈ idL fs.length, atM X i ∈ X := fun i hi => by
  have h := hidm i hi;rw [atM, List.getD_eq_getElem?_getD, List.getElem?_eq_getElem (show i.toNat < X.length by omega)];exact List.getElem_mem _
 have q1 := everybody_is fs.length (by omega);have q2 := divided43_is false (idL fs.length) .full (by omega) (g := 53) (caps := [.ia [.sl fs.isEmpty (X.map Mach.cells) .unk]]) (by simp [AV.norefs, AV.noref, hXn]) (atM X) (fun i hi => by
  have h := hidm i hi;obtain ⟨j, rfl⟩ : ∃ j : Nat, i = (j : Int) := ⟨i.toNat, by omega⟩;have hj : j < X.length := by omega
  have := class1_is fs.isEmpty X .unk j hj;have e : atM X (j : Int) = X[j] := by rw [atM, List.getD_eq_getElem?_getD, Int.toNat_natCast, List.getElem?_eq_getElem hj]; rfl
  rw [e]; exact this) (fun i hi => (hXv _ (hin i hi)).small)
 apply EvC.s1
 ·apply Tr.run
  ·simp only [go_sem, List.length_map] <;> rfl
  ·simp
  apply Tr.cons
  ·exact .call rfl rfl (by simp only [go_sem] <;> rfl) (by simp only [go_sem] <;> rfl) (by simp only [go_sem] <;> rfl) (by simp only [go_sem, hXn] <;> rfl) (by simp only [go_sem] <;> rfl) (q1)
  apply Tr.run
  ·simp only [go_sem, List.length_map] <;> rfl
  ·simp
  apply Tr.cons
  ·exact .call rfl rfl (by simp only [go_sem] <;> rfl) (by simp only [go_sem] <;> rfl) (by simp only [go_sem] <;> rfl) (by simp only [go_sem, hXn] <;> rfl) (by simp only [go_sem] <;> rfl) (q2)
  apply Tr.done
  ·simp only [go_sem] <;> rfl
  ·simp
 have hpl := dvL_len (eqB := eqM) (K := atM X) (idL fs.length) [];have hcl : classL X fs.length = (dvL eqM (atM X) (idL fs.length) []).map (·.2) := rfl;rw [hcl];simp only [List.length_nil, Nat.zero_add] at hpl;generalize dvL eqM (atM X) (idL fs.length) [] = ps at hpl ⊢;have hr : room ps.length 24 = true := by simp only [room_eq, decide_eq_true_eq]; omega
 refine EvC.a ?_ (by simp only [go_sem, List.length_map] <;> rfl) (by simp [hr]; try omega);obtain ⟨F, hF⟩ : ∃ F : Nat → List AV, F = fun i => [.sl false (((ps.map (·.2)).getD i []).map intC) .full] := ⟨_, rfl⟩;have hz := fillC_zero F [.sl true [] .zer] ps.length;have hFn : ∀ k, (fillC F [.sl true [] .zer] ps.length k).all AV.norefs = true := fillC_norefs (fun i => by rw [hF]; simp [AV.norefs, AV.noref, intC]) rfl ps.length;have hrl : (List.replicate ps.length [AV.sl true [] .zer]).length = ps.length := List.length_replicate;have hnr : (List.replicate ps.length [AV.sl true [] .zer]).all AV.norefs = true := by rw [← hz]; exact hFn 0
 refine EvC.seq ?_;refine EvC.a ?_ (by simp only [go_sem, List.length_map, hrl] <;> rfl);have hpn := partC_norefs (kc := Mach.cells) norefs_mcells ps;refine EvC.block ?_;refine EvC.loopS (σ := Nat) (fun k => ⟨[(9, .tv 0 ps.length 0 ps.length (.val ps.length)), (29, .sl (idL fs.length).isEmpty (ps.map (partC Mach.cells)) .unk), (30, .sc (.int .i64 ps.length)), (31, .sc (.int .i64 k))], [], [(0, .arr 1 (fillC F [.sl true [] .zer] ps.length k) false)], 1⟩) (fun k => ps.length - k) (fun k => k ≤ ps.length) [9, 29, 30, 31] 1 ?_ ?_
 ·exact ⟨[(22, 0)], 0, rfl, (by rw [hz]; simp only [go_sem, hnr, Int.natCast_zero] <;> rfl), Nat.zero_le _⟩
 intro k hk;refine EvC.a ?_;refine EvC.seq ?_;refine EvC.cond (by simp only [go_sem] <;> rfl) (fun hc => ?_) (fun hc => ?_);rotate_left
 ·refine EvC.exit ?_;obtain rfl : ps.length = k := by have : ¬ k < ps.length := (by simpa using hc); omega
  have hfe : fillC F [.sl true [] .zer] ps.length ps.length = (ps.map (·.2)).map fun l => [.sl false (l.map intC) .full] := by
   rw [fillC_all, hF];have := range_getD ((ps.map (·.2)).map fun l => [AV.sl false (l.map intC) .full]) [.sl false [] .full];rw [← this];simp only [List.length_map];refine List.map_congr_left fun i hi => ?_;have hi := List.mem_range.1 hi;simp [List.getD_eq_getElem?_getD, List.getElem?_eq_getElem hi]
  have hn2 := hFn ps.length;have hl2 := fillC_len F [.sl true [] .zer] ps.length ps.length;rw [← hfe];generalize fillC F [.sl true [] .zer] ps.length ps.length = L at hn2 hl2 ⊢;refine EvC.frz 0 (by simp only [go_sem, hn2, hl2] <;> rfl) ?_;refine EvC.a ?_ (by simp only [go_sem, hl2] <;> rfl);refine EvC.rz ?_;simp only [go_sem]
 have hkl : k < ps.length := by simpa using hc
 clear hc;have hpe : ps[k]? = some ps[k] := List.getElem?_eq_getElem hkl;have hget := fillC_get F [.sl true [] .zer] hkl;have hset := fillC_set F [.sl true [] .zer] hkl;have hl1 := fillC_len F [.sl true [] .zer] ps.length k;have hn1 := hFn (k + 1);have hl3 := fillC_len F [.sl true [] .zer] ps.length (k + 1);have hFk : F k = [.sl false (ps[k].2.map intC) .full] := by rw [hF]; simp [List.getD_eq_getElem?_getD, hpe]
 rw [hFk] at hset;generalize ps[k] = p at hpe hset;obtain ⟨px, pw⟩ := p;simp only at hset;generalize fillC F [.sl true [] .zer] ps.length k = L at hget hset hl1 ⊢;generalize hL1 : fillC F [.sl true [] .zer] ps.length (k + 1) = L1 at hset hn1 hl3;obtain ⟨kZ, hkZ⟩ : ∃ z : Int, z = (k : Int) := ⟨_, rfl⟩;have hkt : kZ.toNat = k := by omega
 rw [← hkZ];have hp2 : (ps.map (partC Mach.cells))[k]? = some (partC Mach.cells (px, pw)) := by rw [List.getElem?_map, hpe]; rfl
 simp only [partC, Mach.cells, List.cons_append, List.nil_append] at hp2;have q3 := clipI_is false (pw.map intC) .unk (by simp [List.all_eq_true, intC]);refine EvC.skip ?_;refine EvC.seq ?_;refine EvC.block ?_;refine EvC.a ?_ (by simp only [go_sem, hp2, hkt, List.length_map, partC] <;> rfl) (by simp; omega);refine EvC.z 5 ?_;refine EvC.k1L ?_ (h1 := by simp only [go_sem, hkt, hget, hl1] <;> rfl) (c1 := .ca q3) (h2 := by simp only [go_sem, hkt, hget, hl1, hset] <;> rfl) (k2 := by simp; omega);refine EvC.b ?_ (hok := by exact inI64_of (by omega) (by omega));exact ⟨[(0, 0)], k + 1, rfl, (by rw [hkZ, hL1]; simp only [go_sem, hn1, Int.natCast_add, Int.natCast_one] <;> rfl), hkl, by omega⟩
def sumK (k : Nat) : Nat → Nat
 | 0 => 0
 | n + 1 => sumK k n + k ^ n
def rank (k : Nat) : List Int → Nat
 | [] => 0
 | a :: w => (a.toNat + 1) * k ^ w.length + rank k w
def WOk (k : Nat) (w : List Int) : Prop := ∀ a ∈ w, 0 ≤ a ∧ a < k
theorem WOk.tail {k : Nat} {a : Int} {w : List Int} (h : WOk k (a :: w)) : WOk k w := fun x hx => h x (List.mem_cons_of_mem _ hx)
theorem WOk.head {k : Nat} {a : Int} {w : List Int} (h : WOk k (a :: w)) : 0 ≤ a ∧ a < k := h a List.mem_cons_self
theorem WOk.cons {k : Nat} {a : Int} {w : List Int} (ha : 0 ≤ a ∧ a < k) (h : WOk k w) : WOk k (a :: w) := fun x hx => by
 rcases List.mem_cons.1 hx with rfl | hx
 ·exact ha
 ·exact h x hx
theorem rank_ge {k : Nat} : ∀ (w : List Int), sumK k w.length ≤ rank k w
 | [] => Nat.le_refl _
 | a :: w => by
   have h1 := rank_ge (k := k) w;have h2 : 1 * k ^ w.length ≤ (a.toNat + 1) * k ^ w.length := Nat.mul_le_mul_right _ (by omega);simp only [rank, List.length_cons, sumK];omega
theorem rank_lt {k : Nat} : ∀ {w : List Int}, WOk k w → rank k w < sumK k (w.length + 1)
 | [], _ => by simp [rank, sumK]
 | a :: w, h => by
   have h1 := rank_lt h.tail;have h2 : (a.toNat + 1) * k ^ w.length ≤ k * k ^ w.length := Nat.mul_le_mul_right _ (by have := h.head; omega);have h3 : k ^ (w.length + 1) = k * k ^ w.length := by rw [Nat.pow_succ, Nat.mul_comm]
   rw [List.length_cons, sumK, h3];simp only [rank];omega
theorem sumK_mono {k : Nat} : ∀ {a b : Nat}, a ≤ b → sumK k a ≤ sumK k b
 | a, 0, h => by obtain rfl : a = 0 := by omega
                 exact Nat.le_refl _
 | a, b + 1, h => by
   by_cases h1 : a = b + 1
   ·rw [h1]; exact Nat.le_refl _
   ·have := sumK_mono (k := k) (show a ≤ b by omega);simp only [sumK]; omega
theorem rank_len {k : Nat} {w v : List Int} (hw : WOk k w) (h : w.length < v.length) : rank k w < rank k v :=
 Nat.lt_of_lt_of_le (rank_lt hw) (Nat.le_trans (sumK_mono h) (rank_ge v))
theorem rank_head {k : Nat} {a b : Int} {w v : List Int} (hl : w.length = v.length) (hw : WOk k w) (hab : a.toNat < b.toNat) : rank k (a :: w) < rank k (b :: v) := by
 have h1 := rank_lt hw;have h2 := rank_ge (k := k) v;simp only [rank];rw [hl] at h1 ⊢;rw [sumK] at h1;have h3 : (a.toNat + 1 + 1) * k ^ v.length ≤ (b.toNat + 1) * k ^ v.length := Nat.mul_le_mul_right _ (by omega);rw [Nat.succ_mul] at h3;omega
theorem rank_cons {k : Nat} {a : Int} {w v : List Int} (hl : w.length = v.length) (h : rank k w ≤ rank k v) : rank k (a :: w) ≤ rank k (a :: v) := by
 simp only [rank, hl]; omega
theorem rank_inj {k : Nat} : ∀ {w v : List Int}, WOk k w → WOk k v → rank k w = rank k v → w = v
 | w, v, hw, hv, h => by
   have hl : w.length = v.length := by
    by_cases h1 : w.length < v.length
    ·have := rank_len hw h1; omega
    ·by_cases h2 : v.length < w.length
     ·have := rank_len hv h2; omega
     ·omega
   match w, v with
   | [], [] => rfl
   | [], _ :: _ => simp at hl
   | _ :: _, [] => simp at hl
   | a :: w, b :: v =>
     have hl' : w.length = v.length := by simpa using hl
     have h1 : ¬ a.toNat < b.toNat := fun h1 => by have := rank_head hl' hw.tail h1; omega
     have h2 : ¬ b.toNat < a.toNat := fun h2 => by have := rank_head hl'.symm hv.tail h2; omega
     have hab : a = b := by have := hw.head; have := hv.head; omega
     subst hab;have : rank k w = rank k v := by simp only [rank, hl'] at h; omega
     rw [rank_inj hw.tail hv.tail this]
theorem rank_lt_len {k : Nat} {v w : List Int} (hw : WOk k w) (h : rank k v ≤ rank k w) : v.length ≤ w.length := by
 by_cases h1 : w.length < v.length
 ·have := rank_len hw h1; omega
 ·omega
def Alike (m : Mach) (k s t : Nat) : Prop := ∀ v, WOk m.ins.toNat v → v.length ≤ k → runR m s v = runR m t v
theorem alike_succ {m : Mach} (hv : WV m) {k : Nat} (hk : ∀ s t, s < m.rows.length → t < m.rows.length → Alike m k s t → Alike m (k + 1) s t) {s t : Nat} (hs : s < m.rows.length) (ht : t < m.rows.length) (h : Alike m k s t) : ∀ j, Alike m (k + j) s t
 | 0 => h
 | j + 1 => by
   intro v hvo hvl;have h1 := hk s t hs ht h
   match v, hvo with
   | [], _ => rfl
   | b :: v, hvo =>
     have hb := hvo.head;obtain ⟨b, rfl⟩ : ∃ n : Nat, b = (n : Int) := ⟨b.toNat, by omega⟩;have hbl : b < m.ins.toNat := by omega
     have ho : (ex (rowN m s) b).2 = (ex (rowN m t) b).2 := by
      have := h1 [(b : Int)] (fun x hx => by simp at hx; omega) (by simp);rw [run_cons, run_cons] at this;exact (List.cons.inj this).1
     rw [run_cons, run_cons, ho];congr 1;rcases ex_bothW hv hs ht hbl ho with ⟨e1, e2⟩ | ⟨p, q, e1, e2, hp, hq⟩
     ·rw [e1, e2]
     ·rw [e1, e2];have h2 : Alike m k p q := fun u hu hul => by
       have := h1 ((b : Int) :: u) (hu.cons (by omega)) (by simp; omega);rw [run_cons, run_cons, e1, e2] at this;exact (List.cons.inj this).2
      exact alike_succ hv hk hp hq h2 j v hvo.tail (by simp at hvl; omega)
theorem countP_lt {α : Type} {p q : α → Bool} : ∀ {l : List α}, (∀ x ∈ l, p x = true → q x = true) → (∃ x ∈ l, q x = true ∧ p x = false) → l.countP p < l.countP q
 | [], _, ⟨x, h, _⟩ => by cases h
 | y :: l, hpq, ⟨x, hx, h1, h2⟩ => by
   have hm : l.countP p ≤ l.countP q := List.countP_mono_left fun x hx => hpq x (List.mem_cons_of_mem _ hx);rw [List.countP_cons, List.countP_cons];rcases List.mem_cons.1 hx with rfl | hx
   ·rw [h1, h2]; simp; omega
   ·have := countP_lt (fun x hx => hpq x (List.mem_cons_of_mem _ hx)) ⟨x, hx, h1, h2⟩;have h3 := hpq y List.mem_cons_self;by_cases h4 : p y = true
    ·rw [if_pos h4, if_pos (h3 h4)]; omega
    ·rw [if_neg h4]; split <;> omega
open Classical in
noncomputable def leadB (m : Mach) (k : Nat) (s : Nat) : Bool := decide (∀ t < s, ¬ Alike m k t s)
noncomputable def cntL (m : Mach) (k : Nat) : Nat := (List.range m.rows.length).countP (leadB m k)
theorem Alike.symm {m : Mach} {k s t : Nat} (h : Alike m k s t) : Alike m k t s := fun v h1 h2 => (h v h1 h2).symm
theorem Alike.trans {m : Mach} {k s t u : Nat} (h : Alike m k s t) (h' : Alike m k t u) : Alike m k s u := fun v h1 h2 => (h v h1 h2).trans (h' v h1 h2)
theorem Alike.le {m : Mach} {k j s t : Nat} (h : Alike m k s t) (hj : j ≤ k) : Alike m j s t := fun v h1 h2 => h v h1 (by omega)
theorem lead_of (m : Mach) (k : Nat) : ∀ s, ∃ c, c ≤ s ∧ Alike m k c s ∧ leadB m k c = true := fun s => by
 induction s using Nat.strongRecOn with
 | _ s ih =>
   by_cases h : ∃ t, t < s ∧ Alike m k t s
   ·obtain ⟨t, h1, h2⟩ := h;obtain ⟨c, h3, h4, h5⟩ := ih t h1;exact ⟨c, by omega, h4.trans h2, h5⟩
   ·exact ⟨s, Nat.le_refl _, fun _ _ _ => rfl, by simp only [leadB, decide_eq_true_eq]; exact fun t h1 h2 => h ⟨t, h1, h2⟩⟩
theorem cntL_grows {m : Mach} {k : Nat} (h : ¬ ∀ s t, s < m.rows.length → t < m.rows.length → Alike m k s t → Alike m (k + 1) s t) : cntL m k < cntL m (k + 1) := by
 refine countP_lt (fun s _ hs => ?_) ?_
 ·simp only [leadB, decide_eq_true_eq] at hs ⊢;exact fun t h1 h2 => hs t h1 (h2.le (by omega))
 ·simp only [Classical.not_forall] at h;obtain ⟨s, t, hs, ht, h1, h2⟩ := h;obtain ⟨c, c1, c2, c3⟩ := lead_of m k s;have : ∃ u, u < m.rows.length ∧ Alike m k c u ∧ ¬ Alike m (k + 1) c u := by
   by_cases h3 : Alike m (k + 1) c s
   ·exact ⟨t, ht, c2.trans h1, fun h4 => h2 (h3.symm.trans h4)⟩
   ·exact ⟨s, hs, c2, h3⟩
  obtain ⟨u, hu, u1, u2⟩ := this;obtain ⟨d, d1, d2, d3⟩ := lead_of m (k + 1) u;have hcd : Alike m k c d := u1.trans (d2.le (by omega)).symm;have hne : c ≠ d := fun e => u2 (by rw [e]; exact d2);refine ⟨d, List.mem_range.2 (by omega), d3, ?_⟩;have hlt : c < d := by
   by_cases h5 : c < d
   ·exact h5
   ·have h6 : d < c := by omega
    simp only [leadB, decide_eq_true_eq] at c3;exact absurd hcd.symm (c3 d h6)
  rw [Bool.eq_false_iff];intro h7;simp only [leadB, decide_eq_true_eq] at h7;exact h7 c hlt hcd
theorem alike_all {m : Mach} (hv : WV m) {k s t : Nat} (hk : m.rows.length ≤ k + 1) (hs : s < m.rows.length) (ht : t < m.rows.length) (h : Alike m k s t) : ∀ v, WOk m.ins.toNat v → runR m s v = runR m t v := by
 have hN := hv.rows;have hex : ∃ j, j + 1 ≤ m.rows.length ∧ ∀ s t, s < m.rows.length → t < m.rows.length → Alike m j s t → Alike m (j + 1) s t := by
  by_cases hx : ∃ j, j + 1 ≤ m.rows.length ∧ ∀ s t, s < m.rows.length → t < m.rows.length → Alike m j s t → Alike m (j + 1) s t
  ·exact hx
  ·exfalso;have hg : ∀ j, j ≤ m.rows.length → j + 1 ≤ cntL m j := fun j => by
    induction j with
    | zero =>
      intro _;have : 0 < cntL m 0 := List.countP_pos_iff.2 ⟨0, List.mem_range.2 (by omega), by simp [leadB]⟩;omega
    | succ j ih =>
      intro hj;have h1 := ih (by omega);have h2 := cntL_grows (m := m) (k := j) fun h => hx ⟨j, hj, h⟩;omega
   have h1 := hg m.rows.length (Nat.le_refl _);have h2 : cntL m m.rows.length ≤ m.rows.length := by
    have := List.countP_le_length (p := leadB m m.rows.length) (l := List.range m.rows.length);simpa [cntL] using this
   omega
 obtain ⟨j, hj, hst⟩ := hex;intro v hvo;exact alike_succ hv hst hs ht (h.le (by omega)) v.length v hvo (by omega)
theorem iterM_is {m : Mach} (hv : WV m) : ∀ (k s t : Nat), s < m.rows.length → t < m.rows.length → (iterM m k s t = false ↔ Alike m k s t)
 | 0, s, t, _, _ => ⟨fun _ v _ hl => by obtain rfl : v = [] := List.length_eq_zero_iff.1 (by omega); rfl, fun _ => rfl⟩
 | k + 1, s, t, hs, ht => by
   have hins := hv.ins;simp only [iterM, Bool.or_eq_false_iff, iterM_is hv k s t hs ht];have hcond : ∀ b, b < m.ins.toNat → (condM (iterM m k) (ex (rowN m s) b) (ex (rowN m t) b) = false ↔ ∀ v, WOk m.ins.toNat v → v.length ≤ k → runR m s ((b : Int) :: v) = runR m t ((b : Int) :: v)) := fun b hb => by
    by_cases ho : (ex (rowN m s) b).2 = (ex (rowN m t) b).2
    ·rcases ex_bothW hv hs ht hb ho with ⟨e1, e2⟩ | ⟨p, q, e1, e2, hp, hq⟩
     ·refine ⟨fun _ v _ _ => ?_, fun _ => by simp [condM, ho, e1]⟩;rw [run_cons, run_cons, ho, e1, e2]
     ·have h1 : condM (iterM m k) (ex (rowN m s) b) (ex (rowN m t) b) = iterM m k p q := by simp [condM, ho, e1, e2]
      rw [h1, iterM_is hv k p q hp hq];refine ⟨fun h v h2 h3 => ?_, fun h v h2 h3 => ?_⟩
      ·rw [run_cons, run_cons, ho, e1, e2, h v h2 h3]
      ·have := h v h2 h3;rw [run_cons, run_cons, e1, e2] at this;exact (List.cons.inj this).2
    ·refine ⟨fun h => by simp [condM, ho] at h, fun h => ?_⟩;have := h [] (fun x hx => by cases hx) (Nat.zero_le _);rw [run_cons, run_cons] at this;exact absurd (List.cons.inj this).1 ho
   constructor
   ·rintro ⟨h1, h2⟩ v hvo hvl
    match v, hvo with
    | [], _ => rfl
    | b :: v, hvo =>
      have hb := hvo.head;obtain ⟨b, rfl⟩ : ∃ n : Nat, b = (n : Int) := ⟨b.toNat, by omega⟩;rw [apartB, List.any_eq_false] at h2;have h3 := h2 b (List.mem_range.2 (by omega));exact (hcond b (by omega)).1 (by simpa using h3) v hvo.tail (by simp at hvl; omega)
   ·intro h;refine ⟨h.le (by omega), ?_⟩;rw [apartB, List.any_eq_false];intro b hb;have hb := List.mem_range.1 hb;have := (hcond b hb).2 fun v h2 h3 => h _ (h2.cons (by omega)) (by simp; omega);simp [this]
def Least2 (a b : Mach) (w : List Int) : Prop :=
 WOk a.ins.toNat w ∧ runR a 0 w ≠ runR b 0 w ∧ ∀ v, WOk a.ins.toNat v → runR a 0 v ≠ runR b 0 v → rank a.ins.toNat w ≤ rank a.ins.toNat v
theorem Least2.uniq {a b : Mach} {w v : List Int} (h : Least2 a b w) (k : Least2 a b v) : w = v :=
 rank_inj h.1 k.1 (Nat.le_antisymm (h.2.2 _ k.1 k.2.1) (k.2.2 _ h.1 h.2.1))
theorem rank_snoc {k : Nat} : ∀ (w : List Int) (c : Int), rank k (w ++ [c]) = k * rank k w + (c.toNat + 1)
 | [], c => by simp [rank]
 | a :: w, c => by
   have h1 := rank_snoc (k := k) w c;have h2 : (a.toNat + 1) * (k ^ w.length * k) = k * ((a.toNat + 1) * k ^ w.length) := by
    rw [← Nat.mul_assoc, Nat.mul_comm k]
   rw [List.cons_append];simp only [rank, h1, List.length_append, List.length_cons, List.length_nil, Nat.zero_add, Nat.pow_succ, Nat.mul_add] at h2 ⊢;omega
theorem runR_app (m : Mach) : ∀ (s : Int) (u v : List Int), runR m s (u ++ v) = runR m s u ++ runR m (afterR m s u) v
 | _, [], _ => rfl
 | s, a :: u, v => by simp only [List.cons_append, runR, afterR, runR_app m _ u v]
theorem afterR_app (m : Mach) : ∀ (s : Int) (u v : List Int), afterR m s (u ++ v) = afterR m (afterR m s u) v
 | _, [], _ => rfl
 | s, a :: u, v => by simp only [List.cons_append, afterR, afterR_app m _ u v]
theorem stepR_dead (m : Mach) (a : Int) : stepR m (-1) a = (-1, -1) := by unfold stepR; rw [if_pos (by omega)]
theorem stepR_ends {m : Mach} (hv : Valid m) {s a : Int} (h0 : 0 ≤ s) (hs : s < m.rows.length) (ha : 0 ≤ a ∧ a < m.ins) : ((stepR m s a).1 = -1 ∧ (stepR m s a).2 = -1) ∨ (0 ≤ (stepR m s a).1 ∧ (stepR m s a).1 < m.rows.length ∧ 0 ≤ (stepR m s a).2) := by
 obtain ⟨r, e, _, _, h3, h4⟩ := stepR_get hv h0 hs ha;rw [h3];rcases fits_cases h4 with h | h
 ·exact .inl h
 ·exact .inr ⟨h.1, h.2.1, h.2.2.1⟩
structure BInv (a b : Mach) (l : List Arr) (W : Nat → List Int) (at' i : Nat) : Prop where
 z : W 0 = []
 z0 : ∃ c, l[0]? = some ((0, 0), -1, c)
 par : ∀ j p, 1 ≤ j → l[j]? = some p → ∃ q c : Nat, p.2.1 = (q : Int) ∧ p.2.2 = (c : Int) ∧ q < j ∧ c < a.ins.toNat ∧ (q < at' ∨ (q = at' ∧ c < i)) ∧ W j = W q ++ [(c : Int)]
 ok : ∀ j, j < l.length → WOk a.ins.toNat (W j)
 mono : ∀ j k, j < k → k < l.length → rank a.ins.toNat (W j) < rank a.ins.toNat (W k)
 path : ∀ j p, l[j]? = some p → afterR a 0 (W j) = p.1.1 ∧ afterR b 0 (W j) = p.1.2 ∧ runR a 0 (W j) = runR b 0 (W j)
 done : ∀ j p, l[j]? = some p → ∀ c : Nat, c < a.ins.toNat → (j < at' ∨ (j = at' ∧ c < i)) →
  (stepR a p.1.1 c).2 = (stepR b p.1.2 c).2 ∧ ((stepR a p.1.1 c).1 ≠ -1 → (stepR b p.1.2 c).1 ≠ -1 →
   ∃ (k : Nat) (q : Arr), l[k]? = some q ∧ q.1 = ((stepR a p.1.1 c).1, (stepR b p.1.2 c).1) ∧ rank a.ins.toNat (W k) ≤ a.ins.toNat * rank a.ins.toNat (W j) + (c + 1))
theorem BInv.start (a b : Mach) : BInv a b arr0 (fun _ => []) 0 0 where
 z := rfl
 z0 := ⟨0, rfl⟩
 par := fun j p hj h => by
  obtain ⟨k, rfl⟩ : ∃ k, j = k + 1 := ⟨j - 1, by omega⟩;simp [arr0] at h
 ok := fun j _ x hx => by cases hx
 mono := fun j k h1 h2 => by simp [arr0] at h2; omega
 path := fun j p h => by
  cases j with
  | zero => simp only [arr0, List.getElem?_cons_zero, Option.some.injEq] at h; subst h; exact ⟨rfl, rfl, rfl⟩
  | succ k => simp [arr0] at h
 done := fun j p h c hc hd => by omega
theorem nextL_new {at' i : Int} {x y : Int × Int} {l : List Arr} : nextL at' i x y l = l ∨ (nextL at' i x y l = l ++ [((x.1, y.1), at', i)] ∧ x.1 ≠ -1 ∧ y.1 ≠ -1) := by
 unfold nextL;split
 ·rename_i h; exact .inr ⟨rfl, h.1, h.2.1⟩
 ·exact .inl rfl
theorem nextL_in {at' i : Int} {x y : Int × Int} {l : List Arr} (h1 : x.1 ≠ -1) (h2 : y.1 ≠ -1) (h3 : nextL at' i x y l = l) : ∃ (k : Nat) (q : Arr), l[k]? = some q ∧ q.1 = (x.1, y.1) := by
 by_cases hm : (x.1, y.1) ∈ l.map (·.1)
 ·obtain ⟨q, hq, he⟩ := List.mem_map.1 hm;obtain ⟨k, hk, rfl⟩ := List.getElem_of_mem hq;exact ⟨k, _, List.getElem?_eq_getElem hk, he⟩
 ·unfold nextL at h3;rw [if_pos ⟨h1, h2, hm⟩] at h3;have := congrArg List.length h3;simp at this
theorem mul_gap {k r s : Nat} (h : r < s) : k * r + k ≤ k * s := by
 have := Nat.mul_le_mul_left k (show r + 1 ≤ s from h)
 rwa [Nat.mul_add, Nat.mul_one] at this
section
variable {a b : Mach} {l : List Arr} {W : Nat → List Int} {at' i : Nat}
theorem BInv.bound (h : BInv a b l W at' i) {j : Nat} (hj : j < l.length) (hat : at' < l.length) : rank a.ins.toNat (W j) < a.ins.toNat * rank a.ins.toNat (W at') + (i + 1) := by
 by_cases h0 : j = 0
 ·subst h0; rw [h.z]; simp only [rank]; omega
 obtain ⟨q, c, _, _, h1, h2, h3, h4⟩ := h.par j _ (by omega) (List.getElem?_eq_getElem hj);rw [h4, rank_snoc, Int.toNat_natCast];rcases h3 with h3 | ⟨rfl, h3⟩
 ·have := mul_gap (k := a.ins.toNat) (h.mono q at' h3 hat); omega
 ·omega
theorem BInv.step (ha : Valid a) (h : BInv a b l W at' i) {p : Arr} (hp : l[at']? = some p) (hi : i < a.ins.toNat) (ho : (stepR a p.1.1 i).2 = (stepR b p.1.2 i).2) :
  ∃ W', BInv a b (nextL at' i (stepR a p.1.1 i) (stepR b p.1.2 i) l) W' at' (i + 1) ∧ W' at' = W at' := by
 have hat := (List.getElem?_eq_some_iff.1 hp).1;have hw : ∀ {j c : Nat} {x : Nat}, (j < at' ∨ (j = at' ∧ c < i)) → (j < at' ∨ (j = at' ∧ c < i + 1)) := fun h => by omega
 rcases nextL_new (at' := at') (i := i) (x := stepR a p.1.1 i) (y := stepR b p.1.2 i) (l := l) with e | ⟨e, n1, n2⟩
 ·have hin := nextL_in (at' := at') (i := i) (x := stepR a p.1.1 i) (y := stepR b p.1.2 i) (l := l);rw [e];refine ⟨W, ⟨h.z, h.z0, fun j q hj hq => ?_, h.ok, h.mono, h.path, fun j q hq c hc hd => ?_⟩, rfl⟩
  ·obtain ⟨u, c, h1, h2, h3, h4, h5, h6⟩ := h.par j q hj hq;exact ⟨u, c, h1, h2, h3, h4, by omega, h6⟩
  ·by_cases hd' : j < at' ∨ (j = at' ∧ c < i)
   ·exact h.done j q hq c hc hd'
   ·obtain ⟨rfl, rfl⟩ : j = at' ∧ c = i := by omega
    rw [hp] at hq; cases hq;refine ⟨ho, fun k1 k2 => ?_⟩;obtain ⟨k, q, hk, hq⟩ := hin k1 k2 e;exact ⟨k, q, hk, hq, Nat.le_of_lt (h.bound (List.getElem?_eq_some_iff.1 hk).1 hat)⟩
 ·rw [e];have hold : ∀ {j : Nat} {q : Arr}, l[j]? = some q → (l ++ [(((stepR a p.1.1 i).1, (stepR b p.1.2 i).1), (at' : Int), (i : Int))])[j]? = some q := fun hq => by
   rw [List.getElem?_append_left (List.getElem?_eq_some_iff.1 hq).1]; exact hq
  have hnew : ∀ {j : Nat} {q : Arr}, (l ++ [(((stepR a p.1.1 i).1, (stepR b p.1.2 i).1), (at' : Int), (i : Int))])[j]? = some q → (j < l.length ∧ l[j]? = some q) ∨ (j = l.length ∧ q = (((stepR a p.1.1 i).1, (stepR b p.1.2 i).1), (at' : Int), (i : Int))) := fun {j q} hq => by
   by_cases hj : j < l.length
   ·rw [List.getElem?_append_left hj] at hq; exact .inl ⟨hj, hq⟩
   ·have h1 := (List.getElem?_eq_some_iff.1 hq).1;simp only [List.length_append, List.length_cons, List.length_nil] at h1;obtain rfl : j = l.length := by omega
    rw [List.getElem?_append_right (Nat.le_refl _), Nat.sub_self] at hq;simp only [List.getElem?_cons_zero, Option.some.injEq] at hq;exact .inr ⟨rfl, hq.symm⟩
  obtain ⟨p1, p2, p3⟩ := h.path at' p hp;have hV : ∀ j, j < l.length → (if j = l.length then W at' ++ [(i : Int)] else W j) = W j := fun j hj => if_neg (by omega);have hVl : (if l.length = l.length then W at' ++ [(i : Int)] else W l.length) = W at' ++ [(i : Int)] := if_pos rfl;refine ⟨fun j => if j = l.length then W at' ++ [(i : Int)] else W j, ⟨?_, ?_, fun j q hj hq => ?_, fun j hj => ?_, fun j k hjk hk => ?_, fun j q hq => ?_, fun j q hq c hc hd => ?_⟩, hV _ hat⟩
  ·simp only [hV 0 (by omega)]; exact h.z
  ·obtain ⟨c, hc⟩ := h.z0; exact ⟨c, hold hc⟩
  ·rcases hnew hq with ⟨h1, h2⟩ | ⟨rfl, rfl⟩
   ·obtain ⟨u, c, k1, k2, k3, k4, k5, k6⟩ := h.par j q hj h2;exact ⟨u, c, k1, k2, k3, k4, by omega, by simp only [hV j h1, hV u (by omega)]; exact k6⟩
   ·exact ⟨at', i, rfl, rfl, hat, hi, .inr ⟨rfl, by omega⟩, by simp only [if_true, hV at' hat]⟩
  ·simp only [List.length_append, List.length_cons, List.length_nil] at hj;by_cases e2 : j = l.length
   ·subst e2; simp only [if_true];intro x hx;rcases List.mem_append.1 hx with hx | hx
    ·exact h.ok at' hat x hx
    ·simp only [List.mem_singleton] at hx; omega
   ·simp only [hV j (by omega)]; exact h.ok j (by omega)
  ·simp only [List.length_append, List.length_cons, List.length_nil] at hk;by_cases e2 : k = l.length
   ·subst e2; simp only [if_true, hV j (by omega), rank_snoc, Int.toNat_natCast];exact h.bound (by omega) hat
   ·simp only [hV j (by omega), hV k (by omega)]; exact h.mono j k hjk (by omega)
  ·rcases hnew hq with ⟨h1, h2⟩ | ⟨rfl, rfl⟩
   ·simp only [hV j h1]; exact h.path j q h2
   ·simp only [if_true, afterR_app, runR_app, p1, p2, p3, afterR, runR, ho, and_self]
  ·by_cases hd' : j < at' ∨ (j = at' ∧ c < i)
   ·rcases hnew hq with ⟨h1, h2⟩ | ⟨rfl, rfl⟩
    ·obtain ⟨k1, k2⟩ := h.done j q h2 c hc hd';refine ⟨k1, fun k3 k4 => ?_⟩;obtain ⟨k, q', k5, k6, k7⟩ := k2 k3 k4;exact ⟨k, q', hold k5, k6, by simp only [hV j h1, hV k (List.getElem?_eq_some_iff.1 k5).1]; exact k7⟩
    ·omega
   ·obtain ⟨rfl, rfl⟩ : j = at' ∧ c = i := by omega
    rcases hnew hq with ⟨h1, h2⟩ | ⟨h1, _⟩
    ·rw [hp] at h2; cases h2;refine ⟨ho, fun _ _ => ⟨l.length, (((stepR a p.1.1 c).1, (stepR b p.1.2 c).1), (j : Int), (c : Int)), ?_, rfl, ?_⟩⟩
     ·rw [List.getElem?_append_right (Nat.le_refl _), Nat.sub_self]; rfl
     ·simp only [if_true, hV j h1, rank_snoc, Int.toNat_natCast]; exact Nat.le_refl _
    ·omega
theorem BInv.agree (ha : Valid a) (hb : Valid b) (hab : a.ins = b.ins) (hg : GoodL a b l) (h : BInv a b l W at' i) : ∀ (n : Nat) (v : List Int), v.length = n → WOk a.ins.toNat v →
  (∀ j c : Nat, j < l.length → c < a.ins.toNat → a.ins.toNat * rank a.ins.toNat (W j) + (c + 1) ≤ rank a.ins.toNat v → (j < at' ∨ (j = at' ∧ c < i))) →
  runR a 0 v = runR b 0 v ∧ ((afterR a 0 v = -1 ∧ afterR b 0 v = -1) ∨ ∃ (k : Nat) (q : Arr), l[k]? = some q ∧ q.1 = (afterR a 0 v, afterR b 0 v) ∧ rank a.ins.toNat (W k) ≤ rank a.ins.toNat v)
 | 0, v, hv, _, _ => by
   obtain rfl : v = [] := List.length_eq_zero_iff.1 hv;obtain ⟨c, hc⟩ := h.z0;exact ⟨rfl, .inr ⟨0, _, hc, rfl, by rw [h.z]; exact Nat.le_refl _⟩⟩
 | n + 1, v, hv, ho, hp => by
   have hins := ha.ins;obtain ⟨u, c, rfl⟩ : ∃ u c, v = u ++ [c] := ⟨v.dropLast, v.getLast (by intro e; simp [e] at hv), (List.dropLast_concat_getLast _).symm⟩;have hu : WOk a.ins.toNat u := fun x hx => ho x (List.mem_append_left _ hx);have hc := ho c (by simp);obtain ⟨c, rfl⟩ : ∃ d : Nat, c = (d : Int) := ⟨c.toNat, by omega⟩;have hul : u.length = n := by simp at hv; omega
   rw [rank_snoc, Int.toNat_natCast] at hp ⊢;have hca : (0 : Int) ≤ c ∧ (c : Int) < a.ins := by omega
   have hcb : (0 : Int) ≤ c ∧ (c : Int) < b.ins := by omega
   have hcn : c < a.ins.toNat := by omega
   have hK : rank a.ins.toNat u ≤ a.ins.toNat * rank a.ins.toNat u := Nat.le_mul_of_pos_left _ (by omega);obtain ⟨e1, e2⟩ := BInv.agree ha hb hab hg h n u hul hu fun j d hj hd hr => hp j d hj hd (by omega);rw [runR_app, runR_app, afterR_app, afterR_app, e1];rcases e2 with ⟨e2, e3⟩ | ⟨k, q, k1, k2, k3⟩
   ·rw [e2, e3];simp only [runR, afterR, stepR_dead];exact ⟨trivial, .inl ⟨trivial, trivial⟩⟩
   ·have hm := Nat.mul_le_mul_left a.ins.toNat k3;have hm2 : a.ins.toNat * rank a.ins.toNat (W k) + (c + 1) ≤ a.ins.toNat * rank a.ins.toNat u + (c + 1) := by omega
    obtain ⟨d1, d2⟩ := h.done k q k1 c hcn (hp k c (List.getElem?_eq_some_iff.1 k1).1 hcn hm2);have hr := hg.rng q (List.mem_of_getElem? k1);have e3 : q.1.1 = afterR a 0 u := by rw [k2]
    have e4 : q.1.2 = afterR b 0 u := by rw [k2]
    rw [e3] at d1 d2 hr;rw [e4] at d1 d2 hr;have f1 := stepR_ends ha hr.1 hr.2.1 hca;have f2 := stepR_ends hb hr.2.2.1 hr.2.2.2 hcb;simp only [runR, afterR, d1, true_and];by_cases g1 : (stepR a (afterR a 0 u) c).1 = -1
    ·exact .inl ⟨g1, by omega⟩
    ·have g2 : (stepR b (afterR b 0 u) c).1 ≠ -1 := by omega
     obtain ⟨k', q', j1, j2, j3⟩ := d2 g1 g2;have j4 : rank a.ins.toNat (W k') ≤ a.ins.toNat * rank a.ins.toNat u + (c + 1) := Nat.le_trans j3 hm2;exact .inr ⟨k', q', j1, j2, j4⟩
theorem BInv.word (h : BInv a b l W at' i) : ∀ (n j : Nat) (acc : List Int), j < l.length → j < n → wordR l n j acc = W j ++ acc
 | 0, _, _, _, h2 => by omega
 | n + 1, j, acc, h1, h2 => by
   rw [wordR, Int.toNat_natCast];have hj := List.getElem?_eq_getElem h1;rw [hj];by_cases h0 : j = 0
   ·subst h0;obtain ⟨c, hc⟩ := h.z0;rw [hj] at hc;simp only [Option.some.injEq] at hc;simp only [hc, if_true, h.z, List.nil_append]
   ·obtain ⟨q, c, k1, k2, k3, k4, k5, k6⟩ := h.par j _ (by omega) hj;simp only;rw [if_neg (by omega), k1, k2, BInv.word h n q _ (by omega) (by omega), k6];simp
theorem BInv.found (ha : Valid a) (hb : Valid b) (hab : a.ins = b.ins) (hg : GoodL a b l) (h : BInv a b l W at' i) {p : Arr} (hp : l[at']? = some p) (hi : i < a.ins.toNat) (ho : (stepR a p.1.1 i).2 ≠ (stepR b p.1.2 i).2) :
  Least2 a b (wordR l l.length at' [(i : Int)]) := by
 have hat := (List.getElem?_eq_some_iff.1 hp).1;rw [h.word _ _ _ hat hat];obtain ⟨p1, p2, p3⟩ := h.path at' p hp;refine ⟨fun x hx => ?_, fun he => ?_, fun v hv hd => ?_⟩
 ·rcases List.mem_append.1 hx with hx | hx
  ·exact h.ok at' hat x hx
  ·simp only [List.mem_singleton] at hx; omega
 ·rw [runR_app, runR_app, p1, p2, p3] at he;have := List.append_cancel_left he;simp only [runR, List.cons.injEq] at this;exact ho this.1
 ·by_cases hr : rank a.ins.toNat (W at' ++ [(i : Int)]) ≤ rank a.ins.toNat v
  ·exact hr
  ·exfalso;refine hd (h.agree ha hb hab hg v.length v rfl hv fun j c hj hc hjc => ?_).1;rw [rank_snoc, Int.toNat_natCast] at hr;by_cases h1 : j < at'
   ·exact .inl h1
   by_cases h2 : j = at'
   ·subst h2; exact .inr ⟨rfl, by omega⟩
   ·have := mul_gap (k := a.ins.toNat) (h.mono at' j (by omega) hj); omega
end
def difP (z : Yld) : Bool := decide (z.x.2 ≠ z.y.2)
def wordZ (z : Yld) : List Int := wordR z.l z.l.length z.at' [z.inp]
theorem inR_find {a b : Mach} (ha : Valid a) (hb : Valid b) (hab : a.ins = b.ins) {at' : Nat} {p : Arr} : ∀ (n i : Nat) (l : List Arr) (W : Nat → List Int), GoodL a b l → BInv a b l W at' i → l[at']? = some p → n + i = a.ins.toNat →
  (∃ z, (inR a b at' p.1.1 p.1.2 n i l).1.find? difP = some z ∧ Least2 a b (wordZ z)) ∨
  ((inR a b at' p.1.1 p.1.2 n i l).1.find? difP = none ∧ ∃ W', BInv a b (inR a b at' p.1.1 p.1.2 n i l).2 W' at' a.ins.toNat)
 | 0, i, l, W, _, h, _, hn => by
   obtain rfl : i = a.ins.toNat := by omega
   exact .inr ⟨rfl, W, h⟩
 | n + 1, i, l, W, hg, h, hp, hn => by
   simp only [inR, List.find?_cons];by_cases ho : (stepR a p.1.1 i).2 = (stepR b p.1.2 i).2
   ·rw [show difP ⟨at', i, stepR a p.1.1 i, stepR b p.1.2 i, l⟩ = false by simp [difP, ho]];obtain ⟨W', hW, _⟩ := h.step ha hp (by omega) ho;have hr := hg.rng p (List.mem_of_getElem? hp);have hg' := (hg.next ha hb (List.getElem?_eq_some_iff.1 hp).1 (i := (i : Int)) ⟨hr.1, hr.2.1⟩ ⟨hr.2.2.1, hr.2.2.2⟩ (by omega) hab).1;exact inR_find ha hb hab n (i + 1) _ W' hg' hW (nextL_get hp) (by omega)
   ·rw [show difP ⟨at', i, stepR a p.1.1 i, stepR b p.1.2 i, l⟩ = true by simp [difP, ho]];exact .inl ⟨_, rfl, h.found ha hb hab hg hp (by omega) ho⟩
theorem outR_find {a b : Mach} (ha : Valid a) (hb : Valid b) (hab : a.ins = b.ins) : ∀ (n at' : Nat) (l : List Arr) (W : Nat → List Int), GoodL a b l → BInv a b l W at' 0 → n + at' = 5000 → at' ≤ l.length →
  (∃ z, (outR a b n at' l).find? difP = some z ∧ Least2 a b (wordZ z)) ∨
  ((outR a b n at' l).find? difP = none ∧ ∀ v, WOk a.ins.toNat v → runR a 0 v = runR b 0 v)
 | 0, at', l, _, hg, _, hn, hat => by have := hg.len ha hb; omega
 | n + 1, at', l, W, hg, h, hn, hat => by
   simp only [outR];cases hp : l[at']? with
   | none =>
     have hl : l.length ≤ at' := by simpa using hp
     exact .inr ⟨rfl, fun v hv => (h.agree ha hb hab hg v.length v rfl hv fun j c hj _ _ => .inl (by omega)).1⟩
   | some p =>
     simp only [List.find?_append];have hpl := (List.getElem?_eq_some_iff.1 hp).1;rcases inR_find ha hb hab a.ins.toNat 0 l W hg h hp rfl with ⟨z, h1, h2⟩ | ⟨h1, W', h2⟩
     ·exact .inl ⟨z, by rw [h1]; rfl, h2⟩
     ·rw [h1, Option.none_or];obtain ⟨_, h4, h5⟩ := inR_good ha hb hab a.ins.toNat 0 l hg hp rfl;refine outR_find ha hb hab n (at' + 1) _ W' h4 ⟨h2.z, h2.z0, fun j q hj hq => ?_, h2.ok, h2.mono, h2.path, fun j q hq c hc hd => h2.done j q hq c hc (by omega)⟩ (by omega) (by have := (List.getElem?_eq_some_iff.1 h5).1; omega);obtain ⟨u, c, k1, k2, k3, k4, k5, k6⟩ := h2.par j q hj hq;exact ⟨u, c, k1, k2, k3, k4, by omega, k6⟩
theorem diff_least {a b : Mach} (ha : Valid a) (hb : Valid b) (hab : a.ins = b.ins) :
  ((diffO a b).isSome = true ∧ Least2 a b (diffW a b)) ∨ (diffO a b = none ∧ diffW a b = [] ∧ ∀ v, WOk a.ins.toNat v → runR a 0 v = runR b 0 v) := by
 have he : diffO a b = (outR a b 5000 0 arr0).find? difP := rfl;rcases outR_find ha hb hab 5000 0 arr0 _ (.zero ha hb) (.start a b) rfl (Nat.zero_le _) with ⟨z, h1, h2⟩ | ⟨h1, h2⟩
 ·rw [← he] at h1;refine .inl ⟨by rw [h1]; rfl, ?_⟩;unfold diffW; rw [h1]; exact h2
 ·rw [← he] at h1;exact .inr ⟨h1, by unfold diffW; rw [h1], h2⟩
theorem cond_iff {m : Mach} (hv : WV m) {k s t b : Nat} (hs : s < m.rows.length) (ht : t < m.rows.length) (hb : b < m.ins.toNat) :
  condM (iterM m k) (ex (rowN m s) b) (ex (rowN m t) b) = false ↔ ∀ v, WOk m.ins.toNat v → v.length ≤ k → runR m s ((b : Int) :: v) = runR m t ((b : Int) :: v) := by
 by_cases ho : (ex (rowN m s) b).2 = (ex (rowN m t) b).2
 ·rcases ex_bothW hv hs ht hb ho with ⟨e1, e2⟩ | ⟨p, q, e1, e2, hp, hq⟩
  ·refine ⟨fun _ v _ _ => ?_, fun _ => by simp [condM, ho, e1]⟩;rw [run_cons, run_cons, ho, e1, e2]
  ·have h1 : condM (iterM m k) (ex (rowN m s) b) (ex (rowN m t) b) = iterM m k p q := by simp [condM, ho, e1, e2]
   rw [h1, iterM_is hv k p q hp hq];refine ⟨fun h v h2 h3 => ?_, fun h v h2 h3 => ?_⟩
   ·rw [run_cons, run_cons, ho, e1, e2, h v h2 h3]
   ·have := h v h2 h3;rw [run_cons, run_cons, e1, e2] at this;exact (List.cons.inj this).2
 ·refine ⟨fun h => by simp [condM, ho] at h, fun h => ?_⟩;have := h [] (fun x hx => by cases hx) (Nat.zero_le _);rw [run_cons, run_cons] at this;exact absurd (List.cons.inj this).1 ho
def pickI (m : Mach) (n s t : Nat) : Option Nat := (List.range m.ins.toNat).find? fun i => condM (iterM m n) (ex (rowN m s) i) (ex (rowN m t) i)
def refW (m : Mach) : Nat → Nat → Nat → List Int
 | 0, _, _ => []
 | n + 1, s, t => match pickI m n s t with
   | some i => (i : Int) :: refW m n (ex (rowN m s) i).1.toNat (ex (rowN m t) i).1.toNat
   | none => refW m n s t
theorem range_find {n i : Nat} {p : Nat → Bool} (h : (List.range n).find? p = some i) : i < n ∧ p i = true ∧ ∀ j, j < i → p j = false := by
 obtain ⟨h1, l1, l2, h2, h3⟩ := List.find?_eq_some_iff_append.1 h;have hl := congrArg List.length h2;simp only [List.length_range, List.length_append, List.length_cons] at hl;have hi : i = l1.length := by
  have h4 : (List.range n)[l1.length]? = some i := by rw [h2, List.getElem?_append_right (Nat.le_refl _), Nat.sub_self]; rfl
  rw [List.getElem?_range (by omega)] at h4;simpa using h4.symm
 refine ⟨by omega, h1, fun j hj => ?_⟩;have h4 : (List.range n)[j]? = some j := List.getElem?_range (by omega);rw [h2, List.getElem?_append_left (by omega)] at h4;have := h3 j (List.mem_of_getElem? h4);simpa using this
def LeastS (m : Mach) (s t : Nat) (w : List Int) : Prop :=
 WOk m.ins.toNat w ∧ runR m s w ≠ runR m t w ∧ ∀ v, WOk m.ins.toNat v → runR m s v ≠ runR m t v → rank m.ins.toNat w ≤ rank m.ins.toNat v
theorem refW_least {m : Mach} (hv : WV m) : ∀ (n s t : Nat), s < m.rows.length → t < m.rows.length → iterM m n s t = true → iterM m (n - 1) s t = false → LeastS m s t (refW m n s t)
 | 0, s, t, _, _, h, _ => by simp [iterM] at h
 | n + 1, s, t, hs, ht, h, h0 => by
   rw [Nat.add_sub_cancel] at h0;have hal := (iterM_is hv n s t hs ht).1 h0;have hap : apartB m (iterM m n) s t = true := by simpa [iterM, h0] using h
   have hlong : ∀ v, WOk m.ins.toNat v → runR m s v ≠ runR m t v → n < v.length := fun v h1 h2 => by
    by_cases h3 : n < v.length
    ·exact h3
    ·exact absurd (hal v h1 (by omega)) h2
   rw [refW];cases hp : pickI m n s t with
   | none =>
     exfalso;unfold pickI at hp;rw [List.find?_eq_none] at hp;obtain ⟨i, hi, hc⟩ := List.any_eq_true.1 hap;exact hp i hi hc
   | some i =>
     obtain ⟨hi, hc, hbef⟩ := range_find hp;simp only;have hless : ∀ c v, WOk m.ins.toNat ((c : Int) :: v) → v.length ≤ n → runR m s ((c : Int) :: v) ≠ runR m t ((c : Int) :: v) → i ≤ c.toNat := fun c v h1 h2 h3 => by
      by_cases h4 : i ≤ c.toNat
      ·exact h4
      ·have hc0 := h1.head;have := (cond_iff hv hs ht (show c.toNat < m.ins.toNat by omega)).1 (hbef c.toNat (by omega)) v h1.tail h2;rw [show ((c.toNat : Nat) : Int) = c by omega] at this;exact absurd this h3
     by_cases ho : (ex (rowN m s) i).2 = (ex (rowN m t) i).2
     ·rcases ex_bothW hv hs ht hi ho with ⟨e1, e2⟩ | ⟨p, q, e1, e2, hp, hq⟩
      ·simp [condM, ho, e1] at hc
      ·have hpq : iterM m n p q = true := by simpa [condM, ho, e1, e2] using hc
       have hpq0 : iterM m (n - 1) p q = false := by
        rw [iterM_is hv (n - 1) p q hp hq];intro v h1 h2;cases n with
        | zero => simp [iterM] at hpq
        | succ n =>
          have := hal ((i : Int) :: v) (h1.cons (by omega)) (by simp; omega);rw [run_cons, run_cons, e1, e2] at this;exact (List.cons.inj this).2
       obtain ⟨l1, l2, l3⟩ := refW_least hv n p q hp hq hpq hpq0;rw [e1, e2, Int.toNat_natCast, Int.toNat_natCast];have hd : runR m s ((i : Int) :: refW m n p q) ≠ runR m t ((i : Int) :: refW m n p q) := by
        rw [run_cons, run_cons, e1, e2];intro he; exact l2 (List.cons.inj he).2
       have hwo := l1.cons (k := m.ins.toNat) (a := (i : Int)) (by omega);have hlen : (refW m n p q).length = n := by
        have h1 := hlong _ hwo hd;simp only [List.length_cons] at h1;have h2 : ¬ Alike m n p q := fun h2 => by rw [(iterM_is hv n p q hp hq).2 h2] at hpq; cases hpq
        simp only [Alike, Classical.not_forall] at h2;obtain ⟨v, v1, v2, v3⟩ := h2;have := rank_lt_len v1 (l3 v v1 v3);omega
       refine ⟨hwo, hd, fun v hv1 hv2 => ?_⟩;have hvl := hlong v hv1 hv2
       match v, hv1 with
       | [], _ => simp at hvl
       | c :: v, hv1 =>
         simp only [List.length_cons] at hvl;by_cases hvn : v.length = n
         ·have hci := hless c v hv1 (by omega) hv2;by_cases e : c.toNat = i
          ·obtain rfl : c = (i : Int) := by have := hv1.head; omega
           refine rank_cons (by omega) (l3 v hv1.tail fun he => hv2 ?_);rw [run_cons, run_cons, ho, e1, e2, he]
          ·exact Nat.le_of_lt (rank_head (by omega) l1 (by omega))
         ·exact Nat.le_of_lt (rank_len hwo (by simp only [List.length_cons]; omega))
     ·have hn : n = 0 := by
        by_cases hn : n = 0
        ·exact hn
        ·have := hal [(i : Int)] (fun x hx => by simp at hx; omega) (by simp; omega);rw [run_cons, run_cons] at this;exact absurd (List.cons.inj this).1 ho
      subst hn;refine ⟨fun x hx => by simp [refW] at hx; omega, fun he => ?_, fun v hv1 hv2 => ?_⟩
      ·rw [run_cons, run_cons] at he;exact ho (List.cons.inj he).1
      ·match v, hv1 with
       | [], _ => exact absurd rfl hv2
       | [c], hv1 =>
         have hci := hless c [] hv1 (Nat.le_refl _) hv2;by_cases e : c.toNat = i
         ·obtain rfl : c = (i : Int) := by have := hv1.head; omega
          exact Nat.le_refl _
         ·exact Nat.le_of_lt (rank_head rfl (fun x hx => by cases hx) (by omega))
       | c :: d :: v, hv1 => exact Nat.le_of_lt (rank_len (fun x hx => by simp [refW] at hx; omega) (by simp [refW]))
theorem first_of (p : Nat → Bool) : ∀ N, ∃ n, n ≤ N ∧ (∀ k, k < n → p k = false) ∧ (n = N ∨ p n = true)
 | 0 => ⟨0, Nat.le_refl _, fun k hk => by omega, .inl rfl⟩
 | N + 1 => by
   obtain ⟨n, h1, h2, h3⟩ := first_of p N;by_cases hp : p n = true
   ·exact ⟨n, by omega, h2, .inr hp⟩
   ·obtain rfl : n = N := h3.resolve_right hp;exact ⟨n + 1, Nat.le_refl _, fun k hk => by
     by_cases e : k = n
     ·subst e; simpa using hp
     ·exact h2 k (by omega), .inl rfl⟩
def besRow (n : Int) (r : Row) : Row := (false, r.2.map fun e => if 0 ≤ e.1 then (e.1 + n, e.2) else e)
def besM (a b : Mach) : Mach := ⟨a.ins, max a.outs b.outs, false, a.rows ++ b.rows.map (besRow a.rows.length)⟩
theorem besM_len (a b : Mach) : (besM a b).rows.length = a.rows.length + b.rows.length := by simp [besM]
theorem besM_wv {a b : Mach} (ha : Valid a) (hb : Valid b) (hab : a.ins = b.ins) : WV (besM a b) := by
 have h1 := ha.rows;have h2 := hb.rows;refine ⟨ha.ins, by rw [besM_len]; omega, fun r hr => ?_⟩;rw [besM_len];simp only [besM] at hr ⊢;rcases List.mem_append.1 hr with hr | hr
 ·obtain ⟨k1, k2⟩ := ha.row r hr;refine ⟨k1, fun e he => ?_⟩;have := fits_cases (k2 e he);unfold fitsR; simp; omega
 ·obtain ⟨r', hr', rfl⟩ := List.mem_map.1 hr;obtain ⟨k1, k2⟩ := hb.row r' hr';refine ⟨by simp only [besRow, List.length_map]; omega, fun e he => ?_⟩;obtain ⟨e', he', rfl⟩ := List.mem_map.1 he;have := fits_cases (k2 e' he');split <;> (unfold fitsR; simp; omega)
theorem bes_a (a b : Mach) {s i : Int} (hs : s < a.rows.length) : stepR (besM a b) s i = stepR a s i := by
 unfold stepR;by_cases h0 : s < 0
 ·rw [if_pos h0, if_pos h0]
 ·rw [if_neg h0, if_neg h0];simp only [besM];rw [List.getElem?_append_left (by omega)]
theorem bes_b (a b : Mach) {t i : Int} (h0 : 0 ≤ t) : stepR (besM a b) (a.rows.length + t) i = if 0 ≤ (stepR b t i).1 then ((stepR b t i).1 + a.rows.length, (stepR b t i).2) else stepR b t i := by
 have hb' : stepR b t i = (((b.rows[t.toNat]?).map (·.2)).getD [])[i.toNat]?.getD (-1, -1) := by unfold stepR; rw [if_neg (by omega)]
 rw [hb'];unfold stepR;rw [if_neg (by omega)];simp only [besM];rw [List.getElem?_append_right (by omega), show ((a.rows.length : Int) + t).toNat - a.rows.length = t.toNat by omega, List.getElem?_map];cases hr : b.rows[t.toNat]? with
 | none => simp
 | some r =>
   simp only [Option.map_some, Option.getD_some, besRow, List.getElem?_map];cases he : r.2[i.toNat]? with
   | none => simp
   | some e => simp
theorem bes_runa {a : Mach} (ha : Valid a) (b : Mach) : ∀ (w : List Int) (s : Int), s < a.rows.length → (∀ i ∈ w, 0 ≤ i ∧ i < a.ins) → runR (besM a b) s w = runR a s w
 | [], _, _, _ => rfl
 | i :: w, s, hs, hw => by
   simp only [runR, bes_a a b hs];rw [bes_runa ha b w _ (stepR_lt ha hs (hw i List.mem_cons_self)) fun j hj => hw j (List.mem_cons_of_mem _ hj)]
theorem runR_deadR (m : Mach) : ∀ (w : List Int), runR m (-1) w = w.map fun _ => -1
 | [] => rfl
 | a :: w => by simp only [runR, stepR_dead, runR_deadR m w, List.map_cons]
theorem bes_runb (a : Mach) {b : Mach} (hb : Valid b) : ∀ (w : List Int) (t : Int), 0 ≤ t → t < b.rows.length → (∀ i ∈ w, 0 ≤ i ∧ i < b.ins) → runR (besM a b) (a.rows.length + t) w = runR b t w
 | [], _, _, _, _ => rfl
 | i :: w, t, h0, ht, hw => by
   have hw' : ∀ j ∈ w, 0 ≤ j ∧ j < b.ins := fun j hj => hw j (List.mem_cons_of_mem _ hj);simp only [runR, bes_b a b h0];rcases stepR_ends hb h0 ht (hw i List.mem_cons_self) with h | h
   ·rw [if_neg (by omega), h.1, runR_deadR, runR_deadR]
   ·rw [if_pos h.1];simp only;rw [Int.add_comm, bes_runb a hb w _ h.1 h.2.1 hw']
theorem bes_least {a b : Mach} (ha : Valid a) (hb : Valid b) (hab : a.ins = b.ins) {w : List Int} (h : LeastS (besM a b) 0 a.rows.length w) : Least2 a b w := by
 have h1 := ha.rows;have h2 := hb.rows;have hins := ha.ins;have e : ∀ v, WOk a.ins.toNat v → runR (besM a b) ((0 : Nat) : Int) v = runR a 0 v ∧ runR (besM a b) (a.rows.length : Int) v = runR b 0 v := fun v hv => by
  have q1 := bes_runa ha b v 0 (by omega) fun i hi => by have := hv i hi; omega
  have q2 := bes_runb a hb v 0 (by omega) (by omega) fun i hi => by have := hv i hi; omega
  rw [Int.add_zero] at q2;exact ⟨q1, q2⟩
 obtain ⟨k1, k2, k3⟩ := h;have k1 : WOk a.ins.toNat w := k1;rw [(e w k1).1, (e w k1).2] at k2;exact ⟨k1, k2, fun v hv hd => k3 v hv (by rw [(e v hv).1, (e v hv).2]; exact hd)⟩
theorem ref10_word {a b : Mach} (ha : Valid a) (hb : Valid b) (hab : a.ins = b.ins) {n : Nat} (hn : n ≤ a.rows.length + b.rows.length) (hk : ∀ k, k < n → iterM (besM a b) k 0 a.rows.length = false) (he : n = a.rows.length + b.rows.length ∨ iterM (besM a b) n 0 a.rows.length = true) :
  (n = a.rows.length + b.rows.length ∧ diffO a b = none ∧ diffW a b = []) ∨ (n < a.rows.length + b.rows.length ∧ iterM (besM a b) n 0 a.rows.length = true ∧ (diffO a b).isSome = true ∧ refW (besM a b) n 0 a.rows.length = diffW a b) := by
 have h1 := ha.rows;have h2 := hb.rows;have hins := ha.ins;have hw := besM_wv ha hb hab;have hl := besM_len a b;by_cases hx : iterM (besM a b) n 0 a.rows.length = true
 ·have hn0 : n ≠ 0 := fun e => by subst e; simp [iterM] at hx
  have hL := bes_least ha hb hab (refW_least hw n 0 a.rows.length (by omega) (by omega) hx (hk (n - 1) (by omega)));have hd : (diffO a b).isSome = true ∧ Least2 a b (diffW a b) := by
   rcases diff_least ha hb hab with h | ⟨_, _, h⟩
   ·exact h
   ·exact absurd (h _ hL.1) hL.2.1
  refine .inr ⟨?_, hx, hd.1, hL.uniq hd.2⟩;by_cases hlt : n < a.rows.length + b.rows.length
  ·exact hlt
  ·exfalso;have ha1 := (iterM_is hw (n - 1) 0 a.rows.length (by omega) (by omega)).1 (hk (n - 1) (by omega));have := alike_all hw (k := n - 1) (by omega) (by omega) (by omega) ha1;rw [(iterM_is hw n 0 a.rows.length (by omega) (by omega)).2 fun v hv _ => this v hv] at hx;cases hx
 ·obtain rfl := he.resolve_right hx;refine .inl ⟨rfl, ?_⟩;have ha1 := (iterM_is hw (a.rows.length + b.rows.length - 1) 0 a.rows.length (by omega) (by omega)).1 (hk _ (by omega));have hal := alike_all hw (by omega) (by omega) (by omega) ha1;rcases diff_least ha hb hab with ⟨_, h⟩ | ⟨h3, h4, _⟩
  ·exfalso;have q1 := bes_runa ha b (diffW a b) 0 (by omega) fun i hi => by have := h.1 i hi; omega
   have q2 := bes_runb a hb (diffW a b) 0 (by omega) (by omega) fun i hi => by have := h.1 i hi; omega
   rw [Int.add_zero] at q2;have := hal _ h.1;rw [q2] at this;exact h.2.1 (q1.symm.trans this)
  ·exact ⟨h3, h4⟩
def rowsT (l : List Row) (k : Nat) : List (List AV) := (l.take k).map rowC
theorem rowsT_succ {l : List Row} {k : Nat} {r : Row} (h : l[k]? = some r) : rowsT l k ++ [rowC r] = rowsT l (k + 1) := by
 obtain ⟨hi, he⟩ := List.getElem?_eq_some_iff.1 h;unfold rowsT;rw [List.take_succ_eq_append_getElem hi, he, List.map_append]; rfl
theorem rowsT_len {l : List Row} {k : Nat} (h : k ≤ l.length) : (rowsT l k).length = k := by simp [rowsT]; omega
@[go_sem] theorem norefs_rowsT (l : List Row) (k : Nat) : (rowsT l k).all AV.norefs = true := by
 rw [List.all_eq_true];intro c hc;obtain ⟨r, _, rfl⟩ := List.mem_map.1 hc;exact rowC_norefs r
theorem rowsT_all (l : List Row) : rowsT l l.length = l.map rowC := by rw [rowsT, List.take_length]
def edgT (l : List (Int × Int)) (k : Nat) : List (List AV) := (l.take k).map edgeC
theorem edgT_succ {l : List (Int × Int)} {k : Nat} {e : Int × Int} (h : l[k]? = some e) : edgT l k ++ [edgeC e] = edgT l (k + 1) := by
 obtain ⟨hi, he⟩ := List.getElem?_eq_some_iff.1 h;unfold edgT;rw [List.take_succ_eq_append_getElem hi, he, List.map_append]; rfl
theorem edgT_len {l : List (Int × Int)} {k : Nat} (h : k ≤ l.length) : (edgT l k).length = k := by simp [edgT]; omega
@[go_sem] theorem norefs_edgT (l : List (Int × Int)) (k : Nat) : (edgT l k).all AV.norefs = true := by
 rw [List.all_eq_true];intro c hc;obtain ⟨e, _, rfl⟩ := List.mem_map.1 hc;rfl
theorem edgT_all (l : List (Int × Int)) : edgT l l.length = l.map edgeC := by rw [edgT, List.take_length]
theorem beside_is {a b : Mach} (ha : Valid a) (hb : Valid b) (hab : a.ins = b.ins) : PureIs prog 57 [.ag a.cells, .ag b.cells] (.ag (besM a b).cells) := by
 have h1 := ha.rows;have h2 := hb.rows;have h3 := ha.ins;have h4 := ha.outs;have h5 := hb.outs;refine PureIs.of1 11 [23, 40, 46, 59] func57 ntmps57 results57 fun _ => ?_;refine EvC.a ?_ (by simp only [go_sem, Mach.cells] <;> rfl);refine EvC.z 0 ?_;refine EvC.z 1 ?_;refine EvC.a ?_ (by simp only [go_sem, Mach.cells] <;> rfl);obtain ⟨O, hO⟩ : ∃ O : Int, O = max a.outs b.outs := ⟨_, rfl⟩;rw [show (if a.outs ≤ b.outs then b.outs else a.outs) = O from hO.symm];refine EvC.ownC 11 2 1 (by simp only [go_sem] <;> rfl) ?_;refine EvC.seq ?_;refine EvC.a ?_;refine EvC.block ?_;refine EvC.loopS (σ := Nat) (fun i => ⟨[(2, .ia a.cells), (3, .ia b.cells), (4, .rf 0 0), (5, .rf 1 0), (6, .sc (.int .i64 i))], [], [(0, .cells [.sc (.int .i64 0), .sc (.int .i64 0), .sl true [] .zer]), (1, .cells [.sc (.int .i64 a.ins), .sc (.int .i64 O), .tl 2 i (i == 0)]), (2, .arr 1 (rowsT a.rows i) true)], 3⟩) (fun i => a.rows.length - i) (fun i => i ≤ a.rows.length) [2, 3, 4, 5, 6] 3 ?_ ?_
 ·exact ⟨[(2, 0), (11, 1), (13, 2)], 0, rfl, (by simp only [go_sem, Int.natCast_zero, Mach.cells, rowsT, List.take_zero, List.map_nil] <;> rfl), Nat.zero_le _⟩
 intro i hi;have hl := rowsT_len hi;refine EvC.seq ?_;refine EvC.a ?_ (by simp only [go_sem, Mach.cells, List.length_map] <;> rfl);refine EvC.cond (by simp only [go_sem] <;> rfl) (fun hc => ?_) (fun hc => ?_);rotate_left
 ·refine EvC.exit ?_;obtain rfl : i = a.rows.length := by have : ¬ i < a.rows.length := (by simpa using hc); omega
  clear hc hi;obtain ⟨NA, hNA⟩ : ∃ n, n = a.rows.length := ⟨_, rfl⟩;obtain ⟨L, hL⟩ : ∃ L, L = (besM a b).rows := ⟨_, rfl⟩;have hL2 : L = a.rows ++ b.rows.map (besRow NA) := by rw [hL, hNA]; rfl
  have hLl : L.length = NA + b.rows.length := by rw [hL2, hNA]; simp
  have hT0 : rowsT a.rows NA = rowsT L NA := by rw [rowsT, rowsT, hL2, hNA, List.take_left, List.take_length]
  have hnz : (NA == 0) = false := by simp; omega
  rw [← hNA] at hl ⊢;rw [hT0] at hl ⊢;refine EvC.seq ?_;refine EvC.a ?_;refine EvC.block ?_;refine EvC.loopS (σ := Nat) (fun t => ⟨[(2, .ia a.cells), (3, .ia b.cells), (4, .rf 0 0), (5, .rf 1 0), (7, .sc (.int .i64 t))], [], [(0, .cells [.sc (.int .i64 0), .sc (.int .i64 0), .sl true [] .zer]), (1, .cells [.sc (.int .i64 a.ins), .sc (.int .i64 O), .tl 2 (NA + t) false]), (2, .arr 1 (rowsT L (NA + t)) true)], 3⟩) (fun t => b.rows.length - t) (fun t => t ≤ b.rows.length) [2, 3, 4, 5, 7] 3 ?_ ?_
  ·exact ⟨[(0, 0), (1, 1), (2, 2)], 0, rfl, (by simp only [go_sem, Int.natCast_zero, Mach.cells, hnz, Nat.add_zero] <;> rfl), Nat.zero_le _⟩
  intro t ht;have hlt := rowsT_len (l := L) (k := NA + t) (by omega);refine EvC.seq ?_;refine EvC.a ?_ (by simp only [go_sem, Mach.cells, List.length_map] <;> rfl);refine EvC.cond (by simp only [go_sem] <;> rfl) (fun hc => ?_) (fun hc => ?_);rotate_left
  ·refine EvC.exit ?_;obtain rfl : t = b.rows.length := by have : ¬ t < b.rows.length := (by simpa using hc); omega
   rw [← hLl] at hlt ⊢;rw [rowsT_all] at hlt ⊢;have hn : (L.map rowC).all AV.norefs = true := by rw [← rowsT_all]; exact norefs_rowsT _ _
   refine EvC.frzD 2 (by simp only [go_sem, hlt, hn] <;> rfl) ?_;refine EvC.a ?_;refine EvC.rz ?_;simp only [go_sem];rw [hL, hO]; rfl
  have htl : t < b.rows.length := by simpa using hc
  clear hc;have hbr := List.getElem?_eq_getElem htl;have hmr := List.getElem_mem htl;generalize b.rows[t] = r at hbr hmr;have hbl := (hb.row r hmr).1;have hbf := (hb.row r hmr).2;have hLr : L[NA + t]? = some (besRow NA r) := by rw [hL2, hNA, List.getElem?_append_right (Nat.le_add_right _ _), Nat.add_sub_cancel_left, List.getElem?_map, hbr]; rfl
  obtain ⟨R, hR⟩ : ∃ R, R = (besRow NA r).2 := ⟨_, rfl⟩;have hRl : R.length = b.ins.toNat := by rw [hR, besRow]; simp only [List.length_map]; omega
  have hbes : besRow NA r = (false, R) := by rw [hR]; rfl
  have hsT := rowsT_succ hLr;rw [hbes] at hsT;simp only [rowC] at hsT;have htt : ((t : Int)).toNat = t := Int.toNat_natCast t;refine EvC.skip ?_;refine EvC.seq ?_;refine EvC.block ?_;refine EvC.a ?_;refine EvC.seq ?_;refine EvC.a ?_;refine EvC.block ?_;refine EvC.loopS (σ := Nat) (fun i => ⟨[(2, .ia a.cells), (3, .ia b.cells), (4, .rf 0 0), (5, .rf 1 0), (7, .sc (.int .i64 t)), (8, .tl 3 i (i == 0)), (9, .sc (.int .i64 i))], [], [(0, .cells [.sc (.int .i64 0), .sc (.int .i64 0), .sl true [] .zer]), (1, .cells [.sc (.int .i64 a.ins), .sc (.int .i64 O), .tl 2 (NA + t) false]), (2, .arr 1 (rowsT L (NA + t)) true), (3, .arr 2 (edgT R i) true)], 4⟩) (fun i => b.ins.toNat - i) (fun i => i ≤ b.ins.toNat) [2, 3, 4, 5, 7, 8, 9] 4 ?_ ?_
  ·exact ⟨[(0, 0), (1, 1), (2, 2), (8, 3)], 0, rfl, (by simp only [go_sem, Int.natCast_zero, Mach.cells, edgT, List.take_zero, List.map_nil] <;> rfl), Nat.zero_le _⟩
  intro i hi;have hel := edgT_len (l := R) (k := i) (by omega);refine EvC.seq ?_;refine EvC.a ?_ (by simp only [go_sem, Mach.cells] <;> rfl);refine EvC.cond (by simp only [go_sem] <;> rfl) (fun hc => ?_) (fun hc => ?_);rotate_left
  ·refine EvC.exit ?_;obtain rfl : i = b.ins.toNat := by have : ¬ (i : Int) < b.ins := (by simpa using hc); omega
   have hz : (b.ins.toNat == 0) = false := by simp; omega
   rw [← hRl] at hel ⊢;rw [edgT_all] at hel ⊢;have hz2 : (R.length == 0) = false := by rw [hRl]; exact hz
   rw [hz2];refine EvC.frz 3 (by simp only [go_sem, hel] <;> rfl) ?_;have hr : room (NA + t + 1) 24 = true := by simp only [room_eq, decide_eq_true_eq]; omega
   have hlt2 := rowsT_len (l := L) (k := NA + (t + 1)) (by omega);refine EvC.b ?_ (by simp only [go_sem, hlt, hsT] <;> rfl) (by simp [hr]);refine EvC.b ?_ (hok := by exact inI64_of (by omega) (by omega));exact ⟨[(0, 0), (1, 1), (2, 2)], t + 1, rfl, (by simp only [go_sem, Mach.cells, hlt2, Int.natCast_add, Int.natCast_one, Nat.add_assoc] <;> rfl), htl, by omega⟩
  have hil : i < b.ins.toNat := by have : (i : Int) < b.ins := (by simpa using hc); omega
  clear hc;have hil2 : i < r.2.length := by omega
  have her := List.getElem?_eq_getElem hil2;have hem := hbf _ (List.getElem_mem hil2);generalize r.2[i] = e at her hem;have hef := fits_cases hem;have hRe : R[i]? = some (if 0 ≤ e.1 then (e.1 + (NA : Int), e.2) else e) := by rw [hR, besRow]; simp only [List.getElem?_map, her, Option.map_some]
  have hsE := edgT_succ hRe;have hit : ((i : Int)).toNat = i := Int.toNat_natCast i;have hel2 := edgT_len (l := R) (k := i + 1) (by omega);have hr : room (i + 1) 16 = true := by simp only [room_eq, decide_eq_true_eq]; omega
  have hne : (i + 1 == 0) = false := rfl;refine EvC.skip ?_;refine EvC.seq ?_;refine EvC.block ?_;refine EvC.a ?_ (by simp only [go_sem, Mach.cells, List.length_map, hbr, htt, rowC, her, hit, edgeC] <;> rfl) (by simp; try omega);refine EvC.seq ?_;refine EvC.a ?_;by_cases h0 : 0 ≤ e.1
  ·refine EvC.ct ?_ (by simp only [go_sem, decide_eq_true h0] <;> rfl);rw [if_pos h0] at hsE;simp only [edgeC] at hsE;have hI : inI64 (e.1 + (NA : Int)) = true := inI64_of (by omega) (by omega);refine EvC.b ?_ (by simp only [go_sem, Mach.cells, List.length_map, ← hNA] <;> rfl) (by simp [hI]);refine EvC.b ?_ (by simp only [go_sem, hel, hsE] <;> rfl) (by simp [hr]);refine EvC.b ?_ (hok := by exact inI64_of (by omega) (by omega));exact ⟨[(0, 0), (1, 1), (2, 2), (3, 3)], i + 1, rfl, (by simp only [go_sem, Mach.cells, hne, hel2, Int.natCast_add, Int.natCast_one] <;> rfl), hil, by omega⟩
  ·refine EvC.cf ?_ (by simp only [go_sem, decide_eq_false h0] <;> rfl);rw [if_neg h0] at hsE;simp only [edgeC] at hsE;refine EvC.skip ?_;refine EvC.b ?_ (by simp only [go_sem, hel, hsE] <;> rfl) (by simp [hr]);refine EvC.b ?_ (hok := by exact inI64_of (by omega) (by omega));exact ⟨[(0, 0), (1, 1), (2, 2), (3, 3)], i + 1, rfl, (by simp only [go_sem, Mach.cells, hne, hel2, Int.natCast_add, Int.natCast_one] <;> rfl), hil, by omega⟩
 have hil : i < a.rows.length := by simpa using hc
 clear hc;have he := List.getElem?_eq_getElem hil;generalize a.rows[i] = r at he;have hs := rowsT_succ he;have hl2 := rowsT_len (l := a.rows) (k := i + 1) hil;have hr : room (i + 1) 24 = true := by simp only [room_eq, decide_eq_true_eq]; omega
 have hit : ((i : Int)).toNat = i := Int.toNat_natCast i;simp only [rowC] at hs;refine EvC.skip ?_;refine EvC.seq ?_;refine EvC.block ?_;refine EvC.dL mixed ?_ (h := by simp only [go_sem, Mach.cells, List.length_map, he, hit, rowC, hl, hs] <;> rfl) (hok := by simp [hr]; try omega);have hne : (i + 1 == 0) = false := rfl;refine EvC.b ?_ (hok := by exact inI64_of (by omega) (by omega));exact ⟨[(0, 0), (1, 1), (2, 2)], i + 1, rfl, (by simp only [go_sem, Mach.cells, hne, hl2, Int.natCast_add, Int.natCast_one] <;> rfl), hil, by omega⟩
theorem mtab_at {n i k : Nat} {M : Mtx} (h : k < i) : (mtab n M i)[k]? = some [.sl false (((List.range n).map (M k)).map boolC) .unk] := mtab_get h
theorem pick_next {m : Mach} (hv : WV m) {n s t : Nat} (hs : s < m.rows.length) (ht : t < m.rows.length) (h : iterM m (n + 1) s t = true) (h0 : iterM m n s t = false) :
  ∃ i, pickI m n s t = some i ∧ i < m.ins.toNat ∧ condM (iterM m n) (ex (rowN m s) i) (ex (rowN m t) i) = true ∧ (∀ j, j < i → condM (iterM m n) (ex (rowN m s) j) (ex (rowN m t) j) = false) ∧
    (0 < n → ∃ p q : Nat, (ex (rowN m s) i).1 = (p : Int) ∧ (ex (rowN m t) i).1 = (q : Int) ∧ p < m.rows.length ∧ q < m.rows.length ∧ iterM m n p q = true ∧ iterM m (n - 1) p q = false) := by
 have hal := (iterM_is hv n s t hs ht).1 h0;have hap : apartB m (iterM m n) s t = true := by simpa [iterM, h0] using h
 cases hp : pickI m n s t with
 | none =>
   exfalso;unfold pickI at hp;rw [List.find?_eq_none] at hp;obtain ⟨i, hi, hc⟩ := List.any_eq_true.1 hap;exact hp i hi hc
 | some i =>
   obtain ⟨hi, hc, hbef⟩ := range_find hp;refine ⟨i, rfl, hi, hc, hbef, fun hn => ?_⟩;have ho : (ex (rowN m s) i).2 = (ex (rowN m t) i).2 := by
    have := hal [(i : Int)] (fun x hx => by simp at hx; omega) (by simp; try omega);rw [run_cons, run_cons] at this;exact (List.cons.inj this).1
   rcases ex_bothW hv hs ht hi ho with ⟨e1, e2⟩ | ⟨p, q, e1, e2, hp', hq'⟩
   ·simp [condM, ho, e1] at hc
   ·have hpq : iterM m n p q = true := by simpa [condM, ho, e1, e2] using hc
    refine ⟨p, q, e1, e2, hp', hq', hpq, ?_⟩;rw [iterM_is hv (n - 1) p q hp' hq'];intro v h1 h2;have := hal ((i : Int) :: v) (h1.cons (by omega)) (by simp; try omega);rw [run_cons, run_cons, e1, e2] at this;exact (List.cons.inj this).2
theorem ref10_is {a b : Mach} (ha : Valid a) (hb : Valid b) (hab : a.ins = b.ins) :
  PureIs prog 31 [.ag a.cells, .ag b.cells] (.tu [.sl (diffW a b).isEmpty ((diffW a b).map intC) .unk, .sc (.bool (diffO a b).isSome)]) := by
 obtain ⟨n0, k1, k2, k3⟩ := first_of (fun k => iterM (besM a b) k 0 a.rows.length) (a.rows.length + b.rows.length);have hword := ref10_word ha hb hab k1 k2 k3;have q0 := beside_is ha hb hab;have hw := besM_wv ha hb hab;have hml := besM_len a b;have hra := ha.rows;have hrb := hb.rows;generalize besM a b = m at *;obtain ⟨K, hK⟩ : ∃ K, K = a.rows.length := ⟨_, rfl⟩;have hms : ∀ n : Nat, n < 1000000 → PureIs prog 58 [.ag m.cells, .sc (.int .i64 n)] (.sl false (mtab m.rows.length (iterM m n) m.rows.length) .unk) := fun n hn => marked_is hw n hn;have hins := hw.ins;obtain ⟨N, hN⟩ : ∃ N, N = m.rows.length := ⟨_, rfl⟩;rw [← hK] at hword hml k2 k3 k1;simp only [← hN] at hms hml;rw [← hml] at hword k1 k3;have htl := fun M => mtab_len N M N;refine PureIs.of1 15 [37, 44, 46, 56, 100] func31 ntmps31 results31 fun _ => ?_;refine EvC.a ?_ (by simp only [go_sem, Mach.cells] <;> rfl);refine EvC.z 0 ?_;refine EvC.z 1 ?_;refine EvC.k1 ?_ (h1 := by simp only [go_sem, Mach.cells] <;> rfl) (c1 := .ca q0) (h2 := by simp only [go_sem, Mach.cells] <;> rfl);refine EvC.z 7 ?_;refine EvC.d mixed ?_ (h := by simp only [go_sem, Mach.cells, List.length_map, ← hK] <;> rfl);refine EvC.a ?_;refine EvC.seq ?_;refine EvC.block ?_;refine EvC.loopS (σ := Nat) (fun n => ⟨[(6, .ia m.cells), (7, .sc (.int .i64 0)), (8, .sc (.int .i64 K)), (9, .sc (.int .i64 n))], [], [], 0⟩) (fun n => n0 - n) (fun n => n ≤ n0) [6, 7, 8, 9] 0 ?_ ?_
 ·exact ⟨[], 0, rfl, (by simp only [go_sem, Int.natCast_zero, Mach.cells] <;> rfl), Nat.zero_le _⟩
 intro n hn;refine EvC.seq ?_;by_cases hlt : n < n0
 ·have hnN : (n : Int) < m.rows.length := by omega
  have hkg : (List.range N)[K]? = some K := List.getElem?_range (by omega);have hb0 : iterM m n 0 K = false := k2 n hlt;have hm0 := fun M => mtab_at (n := N) (M := M) (show 0 < N by omega);refine EvC.k1 ?_ (h1 := by simp only [go_sem, Mach.cells, List.length_map, decide_eq_true hnN, htl, hm0, hkg, boolC, hb0, Int.toNat_natCast, List.length_range] <;> rfl) (k1 := by simp; try omega) (c1 := .cg (hms n (by omega))) (h2 := by simp only [go_sem, hm0, htl, hkg, boolC, hb0, Int.toNat_natCast, List.length_map, List.length_range] <;> rfl) (k2 := by simp; try omega);refine EvC.cr ?_;refine EvC.block ?_;refine EvC.b ?_ (hok := by exact inI64_of (by omega) (by omega));exact ⟨[], n + 1, rfl, (by simp only [go_sem, Int.natCast_add, Int.natCast_one, Mach.cells] <;> rfl), hlt, by omega⟩
 obtain rfl : n = n0 := by omega
 rcases hword with ⟨he, h1, h2⟩ | ⟨hnN, hit, h1, h2⟩
 ·
  have hnN : ¬ (n : Int) < m.rows.length := by omega
  have heq : (n : Int) = m.rows.length := by omega
  have hkg : (List.range N)[K]? = some K := List.getElem?_range (by omega);obtain ⟨b0, hb0⟩ : ∃ b, iterM m n 0 K = b := ⟨_, rfl⟩;have hm0 := fun M => mtab_at (n := N) (M := M) (show 0 < N by omega);apply EvC.s1
  ·apply Tr.run
   ·simp only [go_sem, Mach.cells, List.length_map, decide_eq_false hnN, htl, hm0, hkg, boolC, hb0, Int.toNat_natCast, List.length_range] <;> rfl
   ·simp; try omega
   apply Tr.cons
   ·exact .skipv (.sl false (mtab N (iterM m n) N) .unk) rfl rfl (by simp only [go_sem] <;> rfl) (by simp only [go_sem] <;> rfl)
   apply Tr.done
   ·simp only [go_sem, hm0, htl, hkg, boolC, hb0, Int.toNat_natCast, List.length_map, List.length_range] <;> rfl
   ·simp; try omega
  refine EvC.cf ?_;refine EvC.exit ?_;refine EvC.seq ?_;refine EvC.a ?_ (by simp only [go_sem, Mach.cells, List.length_map] <;> rfl);refine EvC.ct ?_ (by simp only [go_sem, decide_eq_true heq] <;> rfl);refine EvC.a ?_;refine EvC.rz ?_;simp only [go_sem];rw [h1, h2]; rfl
 have hnN2 : (n : Int) < m.rows.length := by omega
 have heq : ¬ (n : Int) = m.rows.length := by omega
 have hkg : (List.range N)[K]? = some K := List.getElem?_range (by omega);have hm0 := fun M => mtab_at (n := N) (M := M) (show 0 < N by omega);refine EvC.k1 ?_ (h1 := by simp only [go_sem, Mach.cells, List.length_map, decide_eq_true hnN2, htl, hm0, hkg, boolC, hit, Int.toNat_natCast, List.length_range] <;> rfl) (k1 := by simp; try omega) (c1 := .cg (hms n (by omega))) (h2 := by simp only [go_sem, hm0, htl, hkg, boolC, hit, Int.toNat_natCast, List.length_map, List.length_range] <;> rfl) (k2 := by simp; try omega);refine EvC.cf ?_;refine EvC.exit ?_;refine EvC.seq ?_;refine EvC.a ?_ (by simp only [go_sem, Mach.cells, List.length_map] <;> rfl);refine EvC.cs ?_ (by simp only [go_sem, decide_eq_false heq] <;> rfl);refine EvC.a ?_;refine EvC.seq ?_;refine EvC.block ?_;clear hms;have hms : ∀ n : Nat, n < 1000000 → PureIs prog 58 [.ag m.cells, .sc (.int .i64 n)] (.sl false (mtab N (iterM m n) N) .unk) := fun n hn => by rw [hN]; exact marked_is hw n hn
 have hn0 : n ≠ 0 := fun e => by subst e; simp [iterM] at hit
 refine EvC.loopS (σ := Nat × Int × Int × List Int) (fun g => ⟨[(6, .ia m.cells), (7, .sc (.int .i64 g.2.1)), (8, .sc (.int .i64 g.2.2.1)), (9, .sc (.int .i64 g.1)), (10, .tl 0 g.2.2.2.length g.2.2.2.isEmpty)], [], [(0, .arr 1 (g.2.2.2.map intC) true)], 1⟩) (fun g => g.1)
  (fun g => g.2.2.2 ++ refW m g.1 g.2.1.toNat g.2.2.1.toNat = diffW a b ∧ g.2.2.2.length + g.1 = n ∧ (0 < g.1 → 0 ≤ g.2.1 ∧ g.2.1 < N ∧ 0 ≤ g.2.2.1 ∧ g.2.2.1 < N ∧ iterM m g.1 g.2.1.toNat g.2.2.1.toNat = true ∧ iterM m (g.1 - 1) g.2.1.toNat g.2.2.1.toNat = false)) [6, 7, 8, 9, 10] 1 ?_ ?_
 ·refine ⟨[(22, 0)], (n, 0, K, []), rfl, (by simp only [go_sem, List.map_nil, List.length_nil, List.isEmpty_nil] <;> rfl), h2, by simp, fun _ => ⟨Int.le_refl _, by simp only; omega, by simp only; omega, by simp only; omega, ?_, ?_⟩⟩
  ·simpa using hit
  ·have := k2 (n - 1) (by omega);simpa using this
 rintro ⟨n', s, t, acc⟩ ⟨i1, i2, i3⟩;simp only at i1 i2 i3 ⊢;refine EvC.seq ?_;refine EvC.a ?_;refine EvC.cond (by simp only [go_sem] <;> rfl) (fun hc => ?_) (fun hc => ?_);rotate_left
 ·refine EvC.exit ?_;obtain rfl : n' = 0 := by have : ¬ (0 : Int) < n' := (by simpa using hc); omega
  have hacc : acc = diffW a b := by rw [refW, List.append_nil] at i1; exact i1
  refine EvC.frz 0 (by simp only [go_sem, List.length_map] <;> rfl) ?_;refine EvC.a ?_;refine EvC.rz ?_;simp only [go_sem];rw [hacc, h1]
 have hpos : 0 < n' := by have : (0 : Int) < n' := (by simpa using hc); omega
 clear hc;obtain ⟨s0, s1, t0, t1, m1, m2⟩ := i3 hpos;clear i3;obtain ⟨sN, rfl⟩ : ∃ k : Nat, s = (k : Int) := ⟨s.toNat, by omega⟩;obtain ⟨tN, rfl⟩ : ∃ k : Nat, t = (k : Int) := ⟨t.toNat, by omega⟩;obtain ⟨n', rfl⟩ : ∃ k, n' = k + 1 := ⟨n' - 1, by omega⟩;rw [Int.toNat_natCast, Int.toNat_natCast] at i1 m1 m2;rw [Nat.add_sub_cancel] at m2;have hsl : sN < m.rows.length := by omega
 have htl2 : tN < m.rows.length := by omega
 obtain ⟨i0, j1, j2, j3, j4, j5⟩ := pick_next hw hsl htl2 m1 m2;rw [refW, j1] at i1;simp only at i1;obtain ⟨z, hz⟩ : ∃ z : Int, z = ((n' + 1 : Nat) : Int) := ⟨_, rfl⟩;have hz1 : z - 1 = (n' : Int) := by omega
 have hIz : inI64 (n' : Int) = true := inI64_of (by omega) (by omega);rw [← hz];refine EvC.skip ?_;refine EvC.block ?_;refine EvC.k1 ?_ (h1 := by simp only [go_sem, hz1, Mach.cells] <;> rfl) (k1 := by simp [hIz]) (c1 := .ca (hms n' (by omega)));refine EvC.a ?_ (by simp only [go_sem, hz1] <;> rfl) (by simp [hIz]);refine EvC.a ?_;refine EvC.block ?_;refine EvC.loopS (σ := Nat) (fun i => ⟨[(6, .ia m.cells), (7, .sc (.int .i64 sN)), (8, .sc (.int .i64 tN)), (9, .sc (.int .i64 n')), (10, .tl 0 acc.length acc.isEmpty), (11, .sl false (mtab N (iterM m n') N) .unk), (12, .sc (.int .i64 i))], [], [(0, .arr 1 (acc.map intC) true)], 1⟩) (fun i => i0 - i) (fun i => i ≤ i0) [6, 7, 8, 9, 10, 11, 12] 1 ?_ ?_
 ·exact ⟨[(0, 0)], 0, rfl, (by simp only [go_sem, hz1, Int.natCast_zero, Mach.cells] <;> rfl), Nat.zero_le _⟩
 intro i hi;refine EvC.seq ?_;have him : (i : Int) < m.ins := by omega
 refine EvC.a ?_ (by simp only [go_sem, Mach.cells] <;> rfl);refine EvC.cr ?_ (by simp only [go_sem, decide_eq_true him] <;> rfl);have hes : m.rows[sN]? = some m.rows[sN] := List.getElem?_eq_getElem hsl;have het : m.rows[tN]? = some m.rows[tN] := List.getElem?_eq_getElem htl2;have hls := row_lenW hw hsl;have hlt := row_lenW hw htl2;have hrs : rowN m sN = m.rows[sN].2 := by simp [rowN, hes]
 have hrt : rowN m tN = m.rows[tN].2 := by simp [rowN, het]
 generalize m.rows[sN] = r at hes hrs;generalize m.rows[tN] = q at het hrt;have hxs : r.2[i]? = some (ex (rowN m sN) i) := by
  rw [hrs] at hls ⊢;rw [ex, List.getElem?_eq_getElem (by omega)]; rfl
 have hxt : q.2[i]? = some (ex (rowN m tN) i) := by
  rw [hrt] at hlt ⊢;rw [ex, List.getElem?_eq_getElem (by omega)]; rfl
 have hit : ((i : Int)).toNat = i := Int.toNat_natCast i;have hbo := fun h => ex_bothW hw hsl htl2 (show i < m.ins.toNat by omega) h;have hxf := ex_fitsW hw hsl (show i < m.ins.toNat by omega);have hyf := ex_fitsW hw htl2 (show i < m.ins.toNat by omega);have hcond : condM (iterM m n') (ex (rowN m sN) i) (ex (rowN m tN) i) = decide (i = i0) := by
  by_cases e : i = i0
  ·subst e; rw [j3]; simp
  ·rw [j4 i (by omega)]; simp [e]
 have hnx : i = i0 → ∀ x y, x = ex (rowN m sN) i → y = ex (rowN m tN) i → (acc ++ [(i : Int)]) ++ refW m n' x.1.toNat y.1.toNat = diffW a b ∧ (0 < n' → 0 ≤ x.1 ∧ x.1 < N ∧ 0 ≤ y.1 ∧ y.1 < N ∧ iterM m n' x.1.toNat y.1.toNat = true ∧ iterM m (n' - 1) x.1.toNat y.1.toNat = false) := fun e x y hx hy => by
  subst e;rw [hx, hy];refine ⟨by rw [List.append_assoc]; exact i1, fun h => ?_⟩;obtain ⟨p, q, e1, e2, e3, e4, e5, e6⟩ := j5 h;rw [e1, e2, Int.toNat_natCast, Int.toNat_natCast];exact ⟨by omega, by omega, by omega, by omega, e5, e6⟩
 have hnx := fun e => hnx e _ _ rfl rfl;clear j3 j4 j5 i1 j1;generalize ex (rowN m sN) i = x at hxs hbo hcond hnx hxf;generalize ex (rowN m tN) i = y at hxt hbo hcond hnx hyf;refine EvC.seq ?_;refine EvC.block ?_;refine EvC.d mixed ?_ (h := by simp only [go_sem, Mach.cells, Int.toNat_natCast, hes, het, hxs, hxt, rowC, edgeC, hit] <;> rfl) (hok := by simp; try omega);by_cases ho : x.2 = y.2
 ·have ho' : decide (x.2 = y.2) = true := decide_eq_true ho;rcases hbo ho with ⟨e1, e2⟩ | ⟨p, u, e1, e2, hp, hu⟩
  ·have d1 : decide (0 ≤ x.1) = false := decide_eq_false (by omega);have t1 : x.1.toNat = 0 := by omega
   have t2 : y.1.toNat = 0 := by omega
   have hpg : (List.range N)[0]? = some 0 := List.getElem?_range (by omega);have hii : i ≠ i0 := fun e => by
    have : condM (iterM m n') x y = false := by simp [condM, ho, e1]
    rw [this] at hcond; simp [e] at hcond
   refine EvC.d mixed ?_ (h := by simp only [go_sem, ho, ho', d1, decide_not, t1, t2, hpg, mtab_len, mtab, List.getElem?_map, Option.map_some, mrow, boolC, List.length_map, List.length_range] <;> rfl) (hok := by simp; try omega);refine EvC.cs ?_ (by simp only [go_sem, ho, d1] <;> rfl);refine EvC.b ?_ (hok := by exact inI64_of (by omega) (by omega));exact ⟨[(0, 0)], i + 1, rfl, (by simp only [go_sem, Mach.cells, Int.natCast_add, Int.natCast_one] <;> rfl), by omega, by omega⟩
  ·have d1 : decide (0 ≤ x.1) = true := decide_eq_true (by omega);have d2 : decide (0 ≤ y.1) = true := decide_eq_true (by omega);have hpg : (List.range N)[p]? = some p := List.getElem?_range (by omega);have hug : (List.range N)[u]? = some u := List.getElem?_range (by omega);obtain ⟨b, hb⟩ : ∃ b, iterM m n' p u = b := ⟨_, rfl⟩;have hcd : condM (iterM m n') x y = b := by simp [condM, ho, e1, e2, hb]
   have t1 : x.1.toNat = p := by omega
   have t2 : y.1.toNat = u := by omega
   refine EvC.d mixed ?_ (h := by simp only [go_sem, ho, ho', d1, d2, decide_not, t1, t2, hpg, hug, mtab_len, mtab, List.getElem?_map, Option.map_some, mrow, boolC, hb, List.length_map, List.length_range] <;> rfl) (hok := by simp; try omega);cases b
   ·have hii : i ≠ i0 := fun e => by rw [hcd] at hcond; simp [e] at hcond
    refine EvC.cs ?_ (by simp only [go_sem, ho, d1, d2, hb] <;> rfl);refine EvC.b ?_ (hok := by exact inI64_of (by omega) (by omega));exact ⟨[(0, 0)], i + 1, rfl, (by simp only [go_sem, Mach.cells, Int.natCast_add, Int.natCast_one] <;> rfl), by omega, by omega⟩
   ·have hii : i = i0 := by rw [hcd] at hcond; simpa using hcond.symm
    obtain ⟨w1, w2⟩ := hnx hii;have hee : (acc ++ [(i : Int)]).isEmpty = false := by cases acc <;> rfl
    have hr : room (acc.length + 1) 8 = true := by simp only [room_eq, decide_eq_true_eq]; omega
    refine EvC.ct ?_ (by simp only [go_sem, ho, d1, d2, hb] <;> rfl);refine EvC.a ?_ (by simp only [go_sem, List.length_map] <;> rfl) (by simp [hr]);refine EvC.d mixed ?_;refine EvC.exit ?_;exact ⟨[(0, 0)], (n', x.1, y.1, acc ++ [(i : Int)]), rfl, (by simp only [go_sem, Mach.cells, List.map_append, List.map_cons, List.map_nil, intC, List.length_append, hee] <;> rfl), ⟨w1, by simp only [List.length_append, List.length_cons, List.length_nil]; omega, w2⟩, by simp only; omega⟩
 ·have ho' : decide (x.2 = y.2) = false := decide_eq_false ho;clear hbo;have hpg : (List.range N)[x.1.toNat]? = some x.1.toNat := List.getElem?_range (by omega);have hug : (List.range N)[y.1.toNat]? = some y.1.toNat := List.getElem?_range (by omega);have hii : i = i0 := by
   have : condM (iterM m n') x y = true := by simp [condM, ho]
   rw [this] at hcond; simpa using hcond.symm
  obtain ⟨w1, w2⟩ := hnx hii;have hee : (acc ++ [(i : Int)]).isEmpty = false := by cases acc <;> rfl
  have hr : room (acc.length + 1) 8 = true := by simp only [room_eq, decide_eq_true_eq]; omega
  refine EvC.d mixed ?_ (h := by simp only [go_sem, ho, ho', decide_not, hpg, hug, mtab_len, mtab, List.getElem?_map, Option.map_some, mrow, boolC, List.length_map, List.length_range] <;> rfl) (hok := by simp; try omega);refine EvC.ct ?_ (by simp only [go_sem, ho] <;> rfl);refine EvC.a ?_ (by simp only [go_sem, List.length_map] <;> rfl) (by simp [hr]);refine EvC.d mixed ?_;refine EvC.exit ?_;exact ⟨[(0, 0)], (n', x.1, y.1, acc ++ [(i : Int)]), rfl, (by simp only [go_sem, Mach.cells, List.map_append, List.map_cons, List.map_nil, intC, List.length_append, hee] <;> rfl), ⟨w1, by simp only [List.length_append, List.length_cons, List.length_nil]; omega, w2⟩, by simp only; omega⟩
def fewN (K : Nat) : Nat → Nat → Bool
 | 0, _ => true
 | r + 1, n => if 4096 < n * K then false else fewN K r (n * K)
theorem few_is (K most : Nat) (hK : K ≤ 16) (hm : most ≤ 1000000) : PureIs prog 45 [.sc (.int .i64 K), .sc (.int .i64 most)] (.sc (.bool (fewN K most 1))) := by
 refine PureIs.of1 2 [4, 5, 6, 7, 8, 13] func45 ntmps45 results45 fun _ => ?_;refine EvC.a ?_;refine EvC.a ?_;refine EvC.seq ?_;refine EvC.a ?_;refine EvC.block ?_;refine EvC.loopS (σ := Nat × Nat) (fun p => ⟨[(0, .sc (.int .i64 K)), (5, .sc (.int .i64 p.2)), (6, .sc (.int .i64 most)), (7, .sc (.int .i64 p.1))], [], [], 0⟩) (fun p => most - p.1) (fun p => p.1 ≤ most ∧ p.2 ≤ 4096 ∧ fewN K most 1 = fewN K (most - p.1) p.2) [0, 5, 6, 7] 0 ?_ ?_
 ·exact ⟨[], (0, 1), rfl, (by simp only [go_sem, Int.natCast_zero, Int.natCast_one] <;> rfl), Nat.zero_le _, by simp only; omega, rfl⟩
 rintro ⟨i, n⟩ ⟨h1, h2, h3⟩;simp only at h1 h2 h3 ⊢;refine EvC.a ?_;refine EvC.seq ?_;refine EvC.cond (by simp only [go_sem] <;> rfl) (fun hc => ?_) (fun hc => ?_);rotate_left
 ·refine EvC.exit ?_;obtain rfl : i = most := by have : ¬ i < most := (by simpa using hc); omega
  rw [Nat.sub_self] at h3;refine EvC.a ?_;refine EvC.rz ?_;simp only [go_sem];rw [h3]; rfl
 have hil : i < most := by simpa using hc
 clear hc;rw [show most - i = (most - (i + 1)) + 1 by omega, fewN] at h3;have hb : n * K ≤ 4096 * 16 := Nat.mul_le_mul h2 hK;have hb2 : ((n * K : Nat) : Int) = (n : Int) * (K : Int) := Int.natCast_mul n K;obtain ⟨z, hz⟩ : ∃ z : Int, z = (n : Int) * (K : Int) := ⟨_, rfl⟩;have hI : inI64 ((n : Int) * (K : Int)) = true := inI64_of (by omega) (by omega);refine EvC.skip ?_;refine EvC.seq ?_;refine EvC.block ?_;refine EvC.a ?_ (hok := by exact hI);rw [← hz];refine EvC.a ?_;by_cases hlt : 4096 < n * K
 ·refine EvC.ct ?_ (by simp only [go_sem, decide_eq_true (show (4096 : Int) < z by omega)] <;> rfl);refine EvC.a ?_;refine EvC.rz ?_;simp only [go_sem];rw [h3, if_pos hlt]
 ·refine EvC.cs ?_ (by simp only [go_sem, decide_eq_false (show ¬ (4096 : Int) < z by omega)] <;> rfl);refine EvC.b ?_ (hok := by exact inI64_of (by omega) (by omega));refine ⟨[], (i + 1, n * K), rfl, (by rw [hb2, ← hz]; simp only [go_sem, Int.natCast_add, Int.natCast_one] <;> rfl), ⟨hil, by simp only; omega, ?_⟩, by simp only; omega⟩;rw [h3, if_neg hlt]
def dig (K : Nat) : Nat → Nat → List Int
 | 0, _ => []
 | n + 1, j => dig K n (j / K) ++ [((j % K : Nat) : Int)]
def wdl (K n : Nat) : List (List Int) := (List.range (K ^ n)).map (dig K n)
def upL (K : Nat) : Nat → List (List Int)
 | 0 => []
 | n + 1 => upL K n ++ wdl K (n + 1)
theorem dig_len (K : Nat) : ∀ n j, (dig K n j).length = n
 | 0, _ => rfl
 | n + 1, j => by rw [dig, List.length_append, dig_len K n]; rfl
theorem dig_in {K : Nat} (hK : 1 ≤ K) : ∀ n j, ∀ a ∈ dig K n j, 0 ≤ a ∧ a < K
 | 0, _, a, h => by cases h
 | n + 1, j, a, h => by
   rw [dig] at h;rcases List.mem_append.1 h with h | h
   ·exact dig_in hK n _ a h
   ·simp only [List.mem_singleton] at h;have := Nat.mod_lt j (show 0 < K by omega);omega
theorem wdl_len (K n : Nat) : (wdl K n).length = K ^ n := by simp [wdl]
theorem wdl_get {K n j : Nat} (h : j < K ^ n) : (wdl K n)[j]? = some (dig K n j) := by rw [wdl, List.getElem?_map, List.getElem?_range h]; rfl
theorem upL_mem {K : Nat} (hK : 1 ≤ K) : ∀ {m : Nat} {w : List Int}, w ∈ upL K m → 1 ≤ w.length ∧ w.length ≤ m ∧ ∀ a ∈ w, 0 ≤ a ∧ a < K
 | 0, w, h => by cases h
 | m + 1, w, h => by
   rw [upL] at h;rcases List.mem_append.1 h with h | h
   ·obtain ⟨h1, h2, h3⟩ := upL_mem hK h;exact ⟨h1, by omega, h3⟩
   ·obtain ⟨j, _, rfl⟩ := List.mem_map.1 h;rw [dig_len];exact ⟨by omega, Nat.le_refl _, dig_in hK _ _⟩
theorem upL_pre {K : Nat} : ∀ {m n : Nat}, n ≤ m → ∃ r, upL K m = upL K n ++ r
 | 0, n, h => by obtain rfl : n = 0 := by omega
                 exact ⟨[], rfl⟩
 | m + 1, n, h => by
   by_cases e : n = m + 1
   ·subst e; exact ⟨[], (List.append_nil _).symm⟩
   ·obtain ⟨r, hr⟩ := upL_pre (K := K) (show n ≤ m by omega);exact ⟨r ++ wdl K (m + 1), by rw [upL, hr, List.append_assoc]⟩
theorem upL_at {K m n j : Nat} (hn : n < m) (hj : j < K ^ (n + 1)) : (upL K m)[(upL K n).length + j]? = some (dig K (n + 1) j) := by
 obtain ⟨r, hr⟩ := upL_pre (K := K) (show n + 1 ≤ m by omega);rw [hr, upL, List.append_assoc, List.getElem?_append_right (Nat.le_add_right _ _), Nat.add_sub_cancel_left, List.getElem?_append_left (by rw [wdl_len]; exact hj), wdl_get hj]
theorem mul_gapK {k r s : Nat} (h : r < s) : k * r + k ≤ k * s := by
 have := Nat.mul_le_mul_left k (show r + 1 ≤ s from h)
 rwa [Nat.mul_add, Nat.mul_one] at this
def incR (K : Nat) : List Int → Option (List Int)
 | [] => none
 | a :: r => if a + 1 < K then some ((a + 1) :: r) else (incR K r).map (0 :: ·)
theorem incR_dig {K : Nat} (hK : 1 ≤ K) : ∀ n j, j < K ^ n → incR K (dig K n j).reverse = if j + 1 < K ^ n then some (dig K n (j + 1)).reverse else none
 | 0, j, h => by
   have hj : ¬ j + 1 < K ^ 0 := by simp
   rw [if_neg hj]; rfl
 | n + 1, j, h => by
   have e1 := Nat.div_add_mod j K;have e2 := Nat.mod_lt j (show 0 < K by omega);have hp : K ^ (n + 1) = K * K ^ n := by rw [Nat.pow_succ, Nat.mul_comm]
   rw [hp] at h ⊢;have hq : j / K < K ^ n := Nat.div_lt_of_lt_mul h;have hq2 := mul_gapK (k := K) hq;simp only [dig, List.reverse_append, List.reverse_cons, List.reverse_nil, List.nil_append, List.singleton_append, incR];generalize j / K = q at *;generalize j % K = r at *;by_cases hr : r + 1 < K
   ·have d1 : (j + 1) / K = q := by rw [← e1, Nat.add_assoc, Nat.mul_add_div (by omega), Nat.div_eq_of_lt hr]; rfl
    have d2 : (j + 1) % K = r + 1 := by rw [← e1, Nat.add_assoc, Nat.mul_add_mod, Nat.mod_eq_of_lt hr]
    rw [if_pos (by omega), if_pos (by omega), d1, d2]; simp
   ·obtain rfl : K = r + 1 := by omega
    have d1 : (j + 1) / (r + 1) = q + 1 := by rw [← e1, Nat.add_assoc, Nat.mul_add_div (by omega), Nat.div_self (by omega)]
    have d2 : (j + 1) % (r + 1) = 0 := by rw [← e1, Nat.add_assoc, Nat.mul_add_mod, Nat.mod_self]
    rw [if_neg (by omega), incR_dig hK n q hq, d1, d2];by_cases hl : q + 1 < (r + 1) ^ n
    ·have := mul_gapK (k := r + 1) hl;rw [Nat.mul_add, Nat.mul_one] at this;rw [if_pos hl, if_pos (by omega)]; rfl
    ·have : q + 1 = (r + 1) ^ n := by omega
     rw [if_neg hl, if_neg (by rw [← this, Nat.mul_add, Nat.mul_one]; omega)]; rfl
theorem upto_is (K most : Int) : PureIs prog 46 [.sc (.int .i64 K), .sc (.int .i64 most)] (.fn 76 [.ia [.sc (.int .i64 most)], .ia [.sc (.int .i64 K)]]) := by
 refine PureIs.of1 5 [] func46 ntmps46 results46 fun _ => ?_;refine EvC.a ?_;refine EvC.z 0 ?_;refine EvC.z 1 ?_;refine EvC.a ?_;refine EvC.rz ?_;simp only [go_sem]
theorem map_lent (l : List Int) : l.map lentC = l.map intC := rfl
theorem dig_zero (K : Nat) : ∀ n, dig K n 0 = List.replicate n 0
 | 0 => rfl
 | n + 1 => by rw [dig, Nat.zero_div, dig_zero K n, Nat.zero_mod, List.replicate_succ']; rfl
set_option maxHeartbeats 4000000 in
theorem upto1_seq (K most : Nat) (hK : 1 ≤ K) (hK2 : K ≤ 16) (hm : most ≤ 1000) : SeqIsT prog 76 [.ia [.sc (.int .i64 most)], .ia [.sc (.int .i64 K)]] (upL K most) := by
 refine SeqIsG.of (nv := 3) (hid := [4, 5, 6, 7, 10, 14, 15, 19, 27, 41]) func76 rfl (by kernel_rfl) (by simp [ntmps76]) (by rw [results76]) fun lp J h0 hJ hy => ?_;rw [ntmps76];refine EvY.seqL hJ (EvC.rg (by simp only [go_sem] <;> rfl) (by simp) ?_);refine EvY.block ?_;refine EvY.loopS hJ (σ := Nat) (fun n => ⟨[(0, .sc (yv lp)), (1, .ia [.sc (.int .i64 most)]), (2, .ia [.sc (.int .i64 K)]), (4, .sc (.int .i64 ((n : Int) + 1)))], [], [], 0⟩) (fun n => (upL K n).length) (fun n => most - n) (fun n => n ≤ most) [0, 1, 2, 4] 0 ?_ ?_
 ·exact ⟨[], 0, rfl, (by simp only [go_sem, Int.natCast_zero] <;> rfl), Nat.zero_le _, rfl⟩
 intro n hn;refine EvY.seq ?_;refine EvY.seqL hJ (EvC.rg (by simp only [go_sem] <;> rfl) (by simp) ?_);refine EvY.cond (by simp only [go_sem] <;> rfl) (fun hc => ?_) (fun hc => ?_);rotate_left
 ·refine EvY.exit ⟨.inr rfl, .inl ?_⟩;obtain rfl : n = most := by have : ¬ (n : Int) + 1 ≤ most := (by simpa using hc); omega
  rfl
 have hnm : n < most := by have : (n : Int) + 1 ≤ most := (by simpa using hc); omega
 clear hc;obtain ⟨N, hN⟩ : ∃ N : Int, N = (n : Int) + 1 := ⟨_, rfl⟩;have hNt : N.toNat = n + 1 := by omega
 rw [← hN];refine EvY.skip ?_;refine EvY.seq ?_;refine EvY.block ?_;have hr : room (n + 1) 8 = true := by simp only [room_eq, decide_eq_true_eq]; omega
 refine EvY.seqL hJ (EvC.rg (by simp only [go_sem] <;> rfl) (by simp [hNt, hr]; try omega) ?_);refine EvY.seqL hJ (EvC.rg (by simp only [go_sem] <;> rfl) (by simp) ?_);have hz : (List.replicate N.toNat [AV.sc (.int .i64 0)]) = (dig K (n + 1) 0).map intC := by
  rw [hNt, dig_zero]; simp [intC]
 have hzn : ((dig K (n + 1) 0).map intC).all AV.norefs = true := by simp [List.all_eq_true, intC, AV.norefs, AV.noref]
 refine EvY.block ?_;refine EvY.loopS hJ (σ := Nat × List Int) (fun g => ⟨[(0, .sc (yv lp)), (1, .ia [.sc (.int .i64 most)]), (2, .ia [.sc (.int .i64 K)]), (4, .sc (.int .i64 N)), (5, .tv 0 (n + 1) 0 (n + 1) (.val (n + 1))), (6, .sc (.bool (decide (g.1 < K ^ (n + 1)))))], [], [(0, .arr 1 (g.2.map intC) false)], 1⟩) (fun g => (upL K n).length + g.1) (fun g => K ^ (n + 1) - g.1) (fun g => g.1 ≤ K ^ (n + 1) ∧ g.2.length = n + 1 ∧ (g.1 < K ^ (n + 1) → g.2 = dig K (n + 1) g.1)) [0, 1, 2, 4, 5, 6] 1 ?_ ?_
 ·have hp : decide (0 < K ^ (n + 1)) = true := decide_eq_true (Nat.pow_pos (by omega));exact ⟨[(4, 0)], (0, dig K (n + 1) 0), rfl, (by rw [hz]; simp only [go_sem, hp, hNt, hzn] <;> rfl), ⟨Nat.zero_le _, dig_len _ _ _, fun _ => rfl⟩, rfl⟩
 rintro ⟨j, w⟩ ⟨hj, hw1, hw2⟩;simp only at hj hw1 hw2 ⊢;refine EvY.seq ?_;refine EvY.seqL hJ (EvC.rg (by simp only [go_sem] <;> rfl) (by simp) ?_);by_cases hjl : j < K ^ (n + 1);rotate_left
 ·refine EvY.cond_false (by simp only [go_sem, decide_eq_false hjl] <;> rfl) ?_;refine EvY.exit ?_;refine EvY.lift hJ (EvC.rg (by simp only [go_sem] <;> rfl) (inI64_of (by omega) (by omega)) ?_);refine ⟨[], n + 1, rfl, (by simp only [go_sem, hN, Int.natCast_add, Int.natCast_one] <;> rfl), hnm, ?_, by omega⟩;rw [upL, List.length_append, wdl_len, show j = K ^ (n + 1) by omega]
 have hwe := hw2 hjl;refine EvY.cond_true (by simp only [go_sem, decide_eq_true hjl] <;> rfl) ?_;refine EvY.skip ?_;refine EvY.block ?_;refine EvY.seq ?_;refine EvY.seq (EvY.region ?_);have hat := upL_at (m := most) hnm hjl;have hlt := (List.getElem?_eq_some_iff.1 hat).1;have hget : (upL K most)[(upL K n).length + j] = w := by rw [hwe]; exact (List.getElem?_eq_some_iff.1 hat).2
 refine XRY.run hJ (by simp only [go_sem] <;> rfl) (by simp) ?_;refine XRY.yieldT (fz := false) hlt hy rfl rfl (by simp only [go_sem] <;> rfl) (by simp only [go_sem] <;> rfl) (by simp only [go_sem] <;> rfl) (by rw [hget]; simp only [go_sem, map_lent] <;> rfl) (by rw [hget]; exact hw1.symm) (by omega) fun b => ?_;refine XRY.done hJ (by simp only [go_sem] <;> rfl) rfl ?_;refine EvY.cond (by simp only [go_sem] <;> rfl) (fun hb => ?_) (fun hb => ?_)
 ·have hb : b = false := by simpa using hb
  subst hb;exact EvY.ret ⟨.inl rfl, .inr rfl⟩
 have hb : b = true := by simpa using hb
 subst hb;refine EvY.skip ?_;refine EvY.seqL hJ (EvC.rg (by simp only [go_sem] <;> rfl) (by simp) ?_);refine EvY.seqL hJ (EvC.rg (by simp only [go_sem] <;> rfl) (inI64_of (by omega) (by omega)) ?_);have hrl : w.reverse.length = n + 1 := by rw [List.length_reverse, hw1]
 have hinc := incR_dig hK (n + 1) j hjl;rw [← hwe] at hinc;refine EvY.lift hJ ?_;refine EvC.block ?_;have hwin : ∀ x ∈ w.reverse, 0 ≤ x ∧ x < K := fun x hx => by rw [List.mem_reverse, hwe] at hx; exact dig_in hK _ _ x hx
 refine EvC.loopS (σ := List Int × List Int × Bool) (fun g => ⟨[(0, .sc (yv lp)), (1, .ia [.sc (.int .i64 most)]), (2, .ia [.sc (.int .i64 K)]), (4, .sc (.int .i64 N)), (5, .tv 0 (n + 1) 0 (n + 1) (.val (n + 1))), (6, .sc (.bool g.2.2)), (7, .sc (.int .i64 ((g.1.length : Int) - 1)))], [], [(0, .arr 1 ((g.1.reverse ++ g.2.1).map intC) false)], 1⟩) (fun g => g.1.length)
  (fun g => (g.1.reverse ++ g.2.1).length = n + 1 ∧ (∀ x ∈ g.1, 0 ≤ x ∧ x < K) ∧ (g.2.2 = false → ∃ m, g.2.1 = List.replicate m 0 ∧ incR K w.reverse = (incR K g.1).map (List.replicate m 0 ++ ·)) ∧ (g.2.2 = true → ∃ r, incR K w.reverse = some r ∧ g.1.reverse ++ g.2.1 = r.reverse)) [0, 1, 2, 4, 5, 6, 7] 1 ?_ ?_
 ·have hN1 : N - 1 = (w.reverse.length : Int) - 1 := by omega
  refine ⟨[(0, 0)], (w.reverse, [], false), rfl, (by simp only [go_sem, hN1, List.append_nil, List.reverse_reverse] <;> rfl), by simp [hw1], hwin, fun _ => ⟨0, rfl, ?_⟩, fun h => by cases h⟩;simp
 rintro ⟨r, tl, more⟩ ⟨c1, c2, c3, c4⟩;simp only at c1 c2 c3 c4 ⊢;refine EvC.seq ?_;cases more with
 | true =>
   obtain ⟨r2, d1, d2⟩ := c4 rfl;obtain ⟨kZ, hkZ⟩ : ∃ z : Int, z = (r.length : Int) - 1 := ⟨_, rfl⟩;rw [← hkZ];obtain ⟨bz, hbz⟩ : ∃ b, decide (0 ≤ kZ) = b := ⟨_, rfl⟩;have hj1 : j + 1 < K ^ (n + 1) ∧ r2 = (dig K (n + 1) (j + 1)).reverse := by
    rw [d1] at hinc;by_cases h : j + 1 < K ^ (n + 1)
    ·rw [if_pos h] at hinc; exact ⟨h, by simpa using hinc⟩
    ·rw [if_neg h] at hinc; cases hinc
   have hcon : r.reverse ++ tl = dig K (n + 1) (j + 1) := by rw [d2, hj1.2, List.reverse_reverse]
   have hd : decide (j + 1 < K ^ (n + 1)) = true := decide_eq_true hj1.1;have hn2 : ((dig K (n + 1) (j + 1)).map intC).all AV.norefs = true := by simp [List.all_eq_true, intC, AV.norefs, AV.noref]
   rw [hcon];cases bz
   ·refine EvC.g ?_ (h := by simp only [go_sem, hbz] <;> rfl);refine EvC.cf ?_;refine EvC.exit ?_;exact ⟨[(0, 0)], (j + 1, dig K (n + 1) (j + 1)), rfl, (by simp only [go_sem, hd, hn2] <;> rfl), ⟨Nat.le_of_lt hj1.1, dig_len _ _ _, fun _ => rfl⟩, rfl, by simp only; omega⟩
   ·refine EvC.g ?_ (h := by simp only [go_sem, hbz] <;> rfl);refine EvC.cf ?_;refine EvC.exit ?_;exact ⟨[(0, 0)], (j + 1, dig K (n + 1) (j + 1)), rfl, (by simp only [go_sem, hd, hn2] <;> rfl), ⟨Nat.le_of_lt hj1.1, dig_len _ _ _, fun _ => rfl⟩, rfl, by simp only; omega⟩
 | false =>
   obtain ⟨m, d1, d2⟩ := c3 rfl;clear c3 c4;cases r with
   | nil =>
     have hj1 : ¬ j + 1 < K ^ (n + 1) := fun h => by rw [d2, if_pos h] at hinc; cases hinc
     have hd : decide (j + 1 < K ^ (n + 1)) = false := decide_eq_false hj1;simp only [List.length_nil, List.reverse_nil, List.nil_append] at c1 ⊢;have hn2 : (tl.map intC).all AV.norefs = true := by simp [List.all_eq_true, intC, AV.norefs, AV.noref]
     refine EvC.g ?_;refine EvC.cf ?_;refine EvC.exit ?_;exact ⟨[(0, 0)], (j + 1, tl), rfl, (by simp only [go_sem, hd, hn2] <;> rfl), ⟨hjl, c1, fun h => absurd h hj1⟩, rfl, by simp only; omega⟩
   | cons a r =>
     have ha := c2 a List.mem_cons_self;obtain ⟨kZ, hkZ⟩ : ∃ z : Int, z = ((a :: r).length : Int) - 1 := ⟨_, rfl⟩;have hkr : kZ = (r.length : Int) := by rw [hkZ]; simp
     have hkt : kZ.toNat = r.length := by omega
     have hk00 : 0 ≤ kZ := by omega
     have hk0 : decide (0 ≤ kZ) = true := decide_eq_true (by omega);rw [← hkZ];have hcon : (a :: r).reverse ++ tl = r.reverse ++ a :: tl := by simp
     have hrn : r.length < n + 1 := by simp only [List.length_append, List.length_reverse, List.length_cons] at c1; omega
     rw [hcon] at c1 ⊢;obtain ⟨C0, hC0⟩ : ∃ C, C = (r.reverse ++ a :: tl).map intC := ⟨_, rfl⟩;obtain ⟨C1, hC1⟩ : ∃ C, C = (r.reverse ++ (a + 1) :: tl).map intC := ⟨_, rfl⟩;obtain ⟨C2, hC2⟩ : ∃ C, C = (r.reverse ++ 0 :: tl).map intC := ⟨_, rfl⟩;have hrr : (r.reverse.map intC).length = r.length := by simp
     have g0 : C0[r.length]? = some [.sc (.int .i64 a)] := by
      rw [hC0, List.map_append, List.getElem?_append_right (by omega), hrr, Nat.sub_self]; rfl
     have g1 : C1[r.length]? = some [.sc (.int .i64 (a + 1))] := by
      rw [hC1, List.map_append, List.getElem?_append_right (by omega), hrr, Nat.sub_self]; rfl
     have s1 : C0.set r.length [.sc (.int .i64 (a + 1))] = C1 := by
      have := set_mid (r.reverse.map intC) (tl.map intC) (intC a) (intC (a + 1));rw [hrr] at this;rw [hC0, hC1, List.map_append, List.map_append]; exact this
     have s2 : C1.set r.length [.sc (.int .i64 0)] = C2 := by
      have := set_mid (r.reverse.map intC) (tl.map intC) (intC (a + 1)) (intC 0);rw [hrr] at this;rw [hC2, hC1, List.map_append, List.map_append]; exact this
     have l0 : C0.length = n + 1 := by rw [hC0, List.length_map]; exact c1
     have l1 : C1.length = n + 1 := by rw [hC1, List.length_map]; simpa using c1
     have l2 : C2.length = n + 1 := by rw [hC2, List.length_map]; simpa using c1
     have n1 : C1.all AV.norefs = true := by rw [hC1]; simp [List.all_eq_true, intC, AV.norefs, AV.noref]
     have n2 : C2.all AV.norefs = true := by rw [hC2]; simp [List.all_eq_true, intC, AV.norefs, AV.noref]
     have hk1 : kZ - 1 = (r.length : Int) - 1 := by omega
     have hIa : inI64 (a + 1) = true := inI64_of (by omega) (by omega);have hIk : inI64 ((r.length : Int) - 1) = true := inI64_of (by omega) (by simp only [List.length_append, List.length_reverse, List.length_cons] at c1; omega);rw [← hC0];refine EvC.g ?_ (h := by simp only [go_sem, hk0] <;> rfl);refine EvC.cr ?_;refine EvC.seq ?_;refine EvC.block ?_;refine EvC.a ?_ (by simp only [go_sem, hkt, l0, g0, s1] <;> rfl) (by simp [hIa, hk00, hrn]);refine EvC.d mixed ?_ (h := by simp only [go_sem, hkt, l1, g1] <;> rfl) (hok := by simp [hk00, hrn]);by_cases hlt : a + 1 < (K : Int)
     ·refine EvC.ct ?_ (by simp only [go_sem, decide_eq_true hlt] <;> rfl);refine EvC.b ?_;refine EvC.b ?_ (by simp only [go_sem, hk1] <;> rfl) (by simp [hIk]);refine ⟨[(0, 0)], (r, (a + 1) :: tl, true), rfl, (by rw [← hC1]; simp only [go_sem, n1, hk1] <;> rfl), ⟨by simpa using c1, fun x hx => c2 x (List.mem_cons_of_mem _ hx), fun h => (by cases h), fun _ => ?_⟩, by simp⟩;rw [d2, incR, if_pos hlt];exact ⟨_, rfl, by simp [d1]⟩
     ·refine EvC.cf ?_ (by simp only [go_sem, decide_eq_false hlt] <;> rfl);refine EvC.b ?_ (by simp only [go_sem, hkt, l1, g1, s2] <;> rfl) (by simp [hk00, hrn]);refine EvC.b ?_ (by simp only [go_sem, hk1] <;> rfl) (by simp [hIk]);refine ⟨[(0, 0)], (r, 0 :: tl, false), rfl, (by rw [← hC2]; simp only [go_sem, n2, hk1] <;> rfl), ⟨by simpa using c1, fun x hx => c2 x (List.mem_cons_of_mem _ hx), fun _ => ⟨m + 1, by rw [d1]; rfl, ?_⟩, fun h => (by cases h)⟩, by simp⟩;rw [d2, incR, if_neg hlt, Option.map_map];congr 1;funext x;simp [List.replicate_succ']
end Go.Avl
