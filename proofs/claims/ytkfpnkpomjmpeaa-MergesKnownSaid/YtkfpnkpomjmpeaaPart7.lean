/-
  Lemmas.
  Lemmas.
  Lemmas.
  Lemmas.
  Lemmas.
  Lemmas.
  Lemmas.
  Lemmas.
  Lemmas.
  Lemmas.
  Lemmas.
  Lemmas.
  Lemmas.
  Lemmas.
-/
import Derived.Test.YtkfpnkpomjmpeaaPart6
set_option linter.unusedSimpArgs false
set_option linter.unusedVariables false
set_option linter.unnecessarySimpa false
set_option linter.deprecated false
namespace Go.Avl
open Go Go.Proofs.Try
set_option maxRecDepth 10000
set_option linter.unusedSimpArgs false
inductive EqvC (R : Nat → Nat → Prop) : Nat → Nat → Prop
 | base {x y : Nat} (h : R x y) : EqvC R x y
 | refl (x : Nat) : EqvC R x x
 | symm {x y : Nat} (h : EqvC R x y) : EqvC R y x
 | trans {x y z : Nat} (h : EqvC R x y) (k : EqvC R y z) : EqvC R x z
theorem EqvC.bind {R R' : Nat → Nat → Prop} (hR : ∀ x y, R x y → EqvC R' x y) {x y : Nat} (h : EqvC R x y) : EqvC R' x y := by
 induction h with
 | base h => exact hR _ _ h
 | refl x => exact .refl x
 | symm _ ih => exact .symm ih
 | trans _ _ ih1 ih2 => exact .trans ih1 ih2
theorem EqvC.fn {f : Nat → Nat} {x y : Nat} (h : EqvC (fun a b => f a = f b) x y) : f x = f y := by
 induction h with
 | base h => exact h
 | refl x => rfl
 | symm _ ih => exact ih.symm
 | trans _ _ ih1 ih2 => exact ih1.trans ih2
inductive Cong (t : Mach) (R : Nat → Nat → Prop) : Nat → Nat → Prop
 | base {x y : Nat} (h : R x y) : Cong t R x y
 | refl (x : Nat) : Cong t R x x
 | symm {x y : Nat} (h : Cong t R x y) : Cong t R y x
 | trans {x y z : Nat} (h : Cong t R x y) (k : Cong t R y z) : Cong t R x z
 | step {x y i : Nat} (h : Cong t R x y) (hi : (i : Int) < t.ins) (hb : bothE (eT t x i) (eT t y i) = true) : Cong t R (eT t x i).1.toNat (eT t y i).1.toNat
def Clash (t : Mach) (R : Nat → Nat → Prop) : Prop := ∃ x y i : Nat, Cong t R x y ∧ (i : Int) < t.ins ∧ clashE (eT t x i) (eT t y i) = true
theorem clashE_iff {a b : Int × Int} (ha : knownE a = true) (hb : knownE b = true) : clashE a b = false ↔ ((a.1 = -1 ↔ b.1 = -1) ∧ (a.1 ≠ -1 → a.2 = b.2)) := by
 unfold clashE
 rw [ha, hb]
 by_cases h1 : a.1 = -1 <;> by_cases h2 : b.1 = -1 <;> simp [h1, h2]
theorem clashE_symm (a b : Int × Int) : clashE a b = clashE b a := by
 unfold clashE
 cases knownE a <;> cases knownE b <;> simp
 by_cases h1 : a.1 = -1 <;> by_cases h2 : b.1 = -1 <;> simp [h1, h2, eq_comm]
theorem clashE_known {a b : Int × Int} (h : clashE a b = true) : knownE a = true ∧ knownE b = true := by
 unfold clashE at h
 simp only [Bool.and_eq_true] at h
 exact ⟨h.1.1, h.1.2⟩
theorem bothE_iff {a b : Int × Int} : bothE a b = true ↔ a.1 ≠ -1 ∧ b.1 ≠ -1 := by unfold bothE; simp
theorem knownE_to {a : Int × Int} (h : a.1 ≠ -1) : knownE a = true := by unfold knownE; simp [h]
structure FI (t : Mach) (up : List Nat) (W : Nat → Nat → Int × Int) (P : Nat → Nat → Prop) : Prop where
 ok : UpOk up
 len : up.length = t.rows.length
 node : ∀ m i : Nat, m < t.rows.length → (i : Int) < t.ins → knownE (eT t m i) = true → knownE (W (rootU up m) i) = true ∧ clashE (eT t m i) (W (rootU up m) i) = false ∧
  (bothE (eT t m i) (W (rootU up m) i) = true → EqvC (fun a b => rootU up a = rootU up b ∨ P a b) (eT t m i).1.toNat (W (rootU up m) i).1.toNat)
 row : ∀ p i : Nat, p < t.rows.length → rootU up p = p → (i : Int) < t.ins → knownE (W p i) = true → ∃ m, m < t.rows.length ∧ rootU up m = p ∧ W p i = eT t m i
theorem FI.same {t : Mach} {up up' : List Nat} {W : Nat → Nat → Int × Int} {P : Nat → Nat → Prop} (h : FI t up W P) (ho : UpOk up') (hl : up'.length = up.length) (hr : ∀ k, rootU up' k = rootU up k) : FI t up' W P := by
 have e : (fun a b => rootU up' a = rootU up' b ∨ P a b) = fun a b => rootU up a = rootU up b ∨ P a b := by funext a b; rw [hr, hr]
 refine ⟨ho, hl.trans h.len, fun m i hm hi hk => ?_, fun p i hp hpr hi hk => ?_⟩
 ·rw [hr, e]; exact h.node m i hm hi hk
 ·rw [hr] at hpr
  obtain ⟨m, h1, h2, h3⟩ := h.row p i hp hpr hi hk
  exact ⟨m, h1, by rw [hr]; exact h2, h3⟩
theorem FI.less {t : Mach} {up : List Nat} {W : Nat → Nat → Int × Int} {P P' : Nat → Nat → Prop} (h : FI t up W P) (hP : ∀ a b, P a b → EqvC (fun a b => rootU up a = rootU up b ∨ P' a b) a b) : FI t up W P' := by
 refine ⟨h.ok, h.len, fun m i hm hi hk => ?_, h.row⟩
 obtain ⟨h1, h2, h3⟩ := h.node m i hm hi hk
 refine ⟨h1, h2, fun hb => (h3 hb).bind fun a b hab => ?_⟩
 rcases hab with hab | hab
 ·exact .base (.inl hab)
 ·exact hP a b hab
theorem rootU_range (n k : Nat) : rootU (List.range n) k = k := by
 have hp : ∀ k, pU (List.range n) k = k := fun k => by
  unfold pU
  by_cases h : k < n
  ·rw [List.getElem?_range h]; rfl
  ·rw [List.getElem?_eq_none (by simp; omega)]; rfl
 exact rootU_fix (fun k => Nat.le_of_eq (hp k)) (hp k)
theorem upOk_range (n : Nat) : UpOk (List.range n) := fun k => by
 unfold pU
 by_cases h : k < n
 ·rw [List.getElem?_range h]; exact Nat.le_refl _
 ·rw [List.getElem?_eq_none (by simp; omega)]; exact Nat.le_refl _
theorem clashE_self {a : Int × Int} (h : knownE a = true) : clashE a a = false := by rw [clashE_iff h h]; simp
theorem FI.alone (t : Mach) : FI t (List.range t.rows.length) (eT t) fun _ _ => False := by
 refine ⟨upOk_range _, by simp, fun m i hm hi hk => ?_, fun p i hp _ hi hk => ⟨p, hp, rootU_range _ _, rfl⟩⟩
 rw [rootU_range]
 exact ⟨hk, clashE_self hk, fun _ => .refl _⟩
theorem rootU_set {up : List Nat} (h : UpOk up) {p q : Nat} (hq : q < up.length) (hpq : p < q) (hp : pU up p = p) (hqr : pU up q = q) : UpOk (up.set q p) ∧ ∀ k, rootU (up.set q p) k = if rootU up k = q then p else rootU up k := by
 have h' : UpOk (up.set q p) := fun k => by
  rw [pU_set hq]
  split
  ·omega
  ·exact h k
 refine ⟨h', fun k => ?_⟩
 induction k using Nat.strongRecOn with
 | _ k ih =>
   rw [rootU_eq h', pU_set hq]
   by_cases hk : k = q
   ·subst hk
    rw [if_pos rfl, if_neg (by omega), ih p hpq, rootU_fix h hp, rootU_fix h hqr, if_neg (by omega), if_pos rfl]
   ·rw [if_neg hk, rootU_eq h k]
    by_cases hkk : pU up k = k
    ·rw [if_pos hkk, if_pos hkk, if_neg hk]
    ·rw [if_neg hkk, if_neg hkk]
     have := h k
     exact ih _ (by omega)
def inS2 (S : List (Int × Int)) (a b : Nat) : Prop := ((a : Int), (b : Int)) ∈ S
theorem mem_pushN {W : Nat → Nat → Int × Int} {p q n : Nat} {x : Int × Int} : x ∈ pushN W p q n ↔ ∃ i, i < n ∧ bothE (W p i) (W q i) = true ∧ x = ((W p i).1, (W q i).1) := by
 unfold pushN pushP
 simp only [List.mem_filterMap, List.mem_range]
 constructor
 ·rintro ⟨i, h1, h2⟩
  split at h2
  ·rename_i h3
   exact ⟨i, h1, h3, (Option.some.inj h2).symm⟩
  ·cases h2
 ·rintro ⟨i, h1, h2, rfl⟩
  exact ⟨i, h1, if_pos h2⟩
theorem TV.to {t : Mach} (v : TV t) {m i : Nat} (hm : m < t.rows.length) (hi : (i : Int) < t.ins) (h : (eT t m i).1 ≠ -1) : (((eT t m i).1.toNat : Nat) : Int) = (eT t m i).1 ∧ (eT t m i).1.toNat < t.rows.length := by
 rcases v.edge hm hi with h1 | h1
 ·exact absurd h1.1 h
 ·omega
theorem eT_in {t : Mach} {m i : Nat} (h : (eT t m i).1 ≠ -1) : m < t.rows.length := by
 refine Nat.lt_of_not_le fun hm => h ?_
 rw [eT, List.getElem?_eq_none hm]; rfl
theorem FI.unite {t : Mach} (v : TV t) {I : Nat} (hI : t.ins = (I : Int)) {up : List Nat} {W : Nat → Nat → Int × Int} {S : List (Int × Int)} {x y p q : Nat} (h : FI t up W (inS2 (S ++ [((x : Int), (y : Int))])))
  (hq : q < t.rows.length) (hpq : p < q) (hp : rootU up p = p) (hqr : rootU up q = q) (hxy : (rootU up x = p ∧ rootU up y = q) ∨ (rootU up x = q ∧ rootU up y = p)) (hc : ∀ i, i < I → clashE (W p i) (W q i) = false) :
  FI t (up.set q p) (mrgW W p q I) (inS2 (S ++ pushN W p q I)) := by
 have hpp : pU up p = p := by have := pU_root h.ok p; rwa [hp] at this
 have hqq : pU up q = q := by have := pU_root h.ok q; rwa [hqr] at this
 obtain ⟨ho, hr⟩ := rootU_set h.ok (by rw [h.len]; exact hq) hpq hpp hqq
 have hpl : p < t.rows.length := by omega
 have hmono : ∀ a b, EqvC (fun a b => rootU up a = rootU up b ∨ inS2 (S ++ [((x : Int), (y : Int))]) a b) a b → EqvC (fun a b => rootU (up.set q p) a = rootU (up.set q p) b ∨ inS2 (S ++ pushN W p q I) a b) a b := fun a b hab => hab.bind fun a b hab => by
  rcases hab with hab | hab
  ·exact .base (.inl (by rw [hr, hr, hab]))
  ·unfold inS2 at hab
   rcases List.mem_append.1 hab with hab | hab
   ·exact .base (.inr (List.mem_append_left _ hab))
   ·have e := List.mem_singleton.1 hab
    have e1 : a = x := by have := congrArg Prod.fst e; simp only at this; omega
    have e2 : b = y := by have := congrArg Prod.snd e; simp only at this; omega
    subst e1 e2
    refine .base (.inl ?_)
    rw [hr, hr]
    rcases hxy with ⟨k1, k2⟩ | ⟨k1, k2⟩ <;> rw [k1, k2] <;> simp
 have hne : q ≠ p := by omega
 have hWp : ∀ i, i < I → mrgW W p q I p i = mergeE (W p i) (W q i) := fun i hi => by simp [mrgW, hi]
 have hWo : ∀ a i, a ≠ p → mrgW W p q I a i = W a i := fun a i ha => by simp [mrgW, ha]
 refine ⟨ho, by rw [List.length_set, h.len], fun m i hm hi hk => ?_, fun p' i hp' hpr hi hk => ?_⟩
 ·have hiI : i < I := by omega
  obtain ⟨h1, h2, h3⟩ := h.node m i hm hi hk
  rw [hr]
  by_cases hmq : rootU up m = q
  ·rw [if_pos hmq]
   rw [hmq] at h1 h2 h3
   rw [hWp i hiI, mergeE]
   by_cases hkp : knownE (W p i) = true
   ·rw [if_pos hkp]
    have hcp := hc i hiI
    rw [clashE_iff hkp h1] at hcp
    rw [clashE_iff hk h1] at h2
    refine ⟨hkp, (clashE_iff hk hkp).2 ⟨h2.1.trans hcp.1.symm, fun hn => ?_⟩, fun hb => ?_⟩
    ·have a1 := h2.2 hn
     have a2 := hcp.2 (fun e => hn (h2.1.2 (hcp.1.1 e)))
     rw [a1, ← a2]
    ·obtain ⟨b1, b2⟩ := bothE_iff.1 hb
     have b3 : (W q i).1 ≠ -1 := fun e => b1 (h2.1.2 e)
     refine .trans (hmono _ _ (h3 (bothE_iff.2 ⟨b1, b3⟩))) (.symm (.base (.inr ?_)))
     refine List.mem_append_right _ (mem_pushN.2 ⟨i, hiI, bothE_iff.2 ⟨b2, b3⟩, ?_⟩)
     obtain ⟨m1, c1, c2, c3⟩ := h.row p i hpl hp hi hkp
     obtain ⟨m2, d1, d2, d3⟩ := h.row q i hq hqr hi h1
     rw [c3] at b2 ⊢
     rw [d3] at b3 ⊢
     rw [(v.to c1 hi b2).1, (v.to d1 hi b3).1]
   ·rw [if_neg hkp]
    exact ⟨h1, h2, fun hb => hmono _ _ (h3 hb)⟩
  ·rw [if_neg hmq]
   by_cases hmp : rootU up m = p
   ·rw [hmp] at h1 h2 h3 ⊢
    rw [hWp i hiI, mergeE, if_pos h1]
    exact ⟨h1, h2, fun hb => hmono _ _ (h3 hb)⟩
   ·rw [hWo _ _ hmp]
    exact ⟨h1, h2, fun hb => hmono _ _ (h3 hb)⟩
 ·have hiI : i < I := by omega
  rw [hr] at hpr
  have hpr' : p' ≠ q := fun e => by
   subst e
   rw [hqr, if_pos rfl] at hpr; omega
  have hpr2 : rootU up p' = p' := by
   by_cases e : rootU up p' = q
   ·rw [if_pos e] at hpr
    subst hpr
    rw [hp] at e; omega
   ·rwa [if_neg e] at hpr
  by_cases hpp' : p' = p
  ·subst hpp'
   rw [hWp i hiI, mergeE] at hk ⊢
   by_cases hkp : knownE (W p' i) = true
   ·rw [if_pos hkp]
    obtain ⟨m, c1, c2, c3⟩ := h.row p' i hpl hp hi hkp
    exact ⟨m, c1, by rw [hr, c2, if_neg (by omega)], c3⟩
   ·rw [if_neg hkp] at hk ⊢
    obtain ⟨m, c1, c2, c3⟩ := h.row q i hq hqr hi hk
    exact ⟨m, c1, by rw [hr, c2, if_pos rfl], c3⟩
  ·rw [hWo _ _ hpp'] at hk ⊢
   obtain ⟨m, c1, c2, c3⟩ := h.row p' i hp' hpr2 hi hk
   exact ⟨m, c1, by rw [hr, c2, if_neg hpr'], c3⟩
def sumR (up : List Nat) : Nat → Nat
 | 0 => 0
 | n + 1 => sumR up n + rootU up n
theorem sumR_same {up up' : List Nat} (h : ∀ k, rootU up' k = rootU up k) : ∀ n, sumR up' n = sumR up n
 | 0 => rfl
 | n + 1 => by rw [sumR, sumR, sumR_same h n, h]
theorem sumR_le {up : List Nat} (h : UpOk up) : ∀ n, sumR up n ≤ n * n
 | 0 => Nat.le_refl _
 | n + 1 => by
   have := sumR_le h n
   have := rootU_le h n
   rw [sumR, Nat.succ_mul, Nat.mul_succ]; omega
theorem sumR_less {up up' : List Nat} (h : ∀ k, rootU up' k ≤ rootU up k) {q : Nat} (hq : rootU up' q < rootU up q) : ∀ n, sumR up' n ≤ sumR up n ∧ (q < n → sumR up' n < sumR up n)
 | 0 => ⟨Nat.le_refl _, fun h => by omega⟩
 | n + 1 => by
   obtain ⟨h1, h2⟩ := sumR_less h hq n
   have := h n
   refine ⟨by rw [sumR, sumR]; omega, fun hn => ?_⟩
   rw [sumR, sumR]
   by_cases e : q = n
   ·subst e; omega
   ·have := h2 (by omega); omega
structure JInv (t : Mach) (R : Nat → Nat → Prop) (up : List Nat) (W : Nat → Nat → Int × Int) (S : List (Int × Int)) : Prop where
 fi : FI t up W (inS2 S)
 sub : ∀ x y, rootU up x = rootU up y → Cong t R x y
 mem : ∀ e ∈ S, 0 ≤ e.1 ∧ 0 ≤ e.2 ∧ e.1 < t.rows.length ∧ e.2 < t.rows.length ∧ Cong t R e.1.toNat e.2.toNat
 old : ∀ x y, R x y → EqvC (fun a b => rootU up a = rootU up b ∨ inS2 S a b) x y
theorem JInv.same {t : Mach} {R : Nat → Nat → Prop} {up up' : List Nat} {W : Nat → Nat → Int × Int} {S : List (Int × Int)} (h : JInv t R up W S) (ho : UpOk up') (hl : up'.length = up.length) (hr : ∀ k, rootU up' k = rootU up k) : JInv t R up' W S := by
 have e : (fun a b => rootU up' a = rootU up' b ∨ inS2 S a b) = fun a b => rootU up a = rootU up b ∨ inS2 S a b := by funext a b; rw [hr, hr]
 exact ⟨h.fi.same ho hl hr, fun x y hxy => h.sub x y (by rwa [hr, hr] at hxy), h.mem, fun x y hxy => by rw [e]; exact h.old x y hxy⟩
theorem inS2_snoc {S : List (Int × Int)} {x y a b : Nat} (h : inS2 (S ++ [((x : Int), (y : Int))]) a b) : inS2 S a b ∨ (a = x ∧ b = y) := by
 rcases List.mem_append.1 h with hab | hab
 ·exact .inl hab
 ·have e := List.mem_singleton.1 hab
  have e1 : a = x := by have := congrArg Prod.fst e; simp only at this; omega
  have e2 : b = y := by have := congrArg Prod.snd e; simp only at this; omega
  exact .inr ⟨e1, e2⟩
theorem JInv.drop {t : Mach} {R : Nat → Nat → Prop} {up : List Nat} {W : Nat → Nat → Int × Int} {S : List (Int × Int)} {x y : Nat} (h : JInv t R up W (S ++ [((x : Int), (y : Int))])) (hxy : rootU up x = rootU up y) : JInv t R up W S := by
 have key : ∀ a b, inS2 (S ++ [((x : Int), (y : Int))]) a b → EqvC (fun a b => rootU up a = rootU up b ∨ inS2 S a b) a b := fun a b hab => by
  rcases inS2_snoc hab with hab | ⟨rfl, rfl⟩
  ·exact .base (.inr hab)
  ·exact .base (.inl hxy)
 exact ⟨h.fi.less key, h.sub, fun e he => h.mem e (List.mem_append_left _ he), fun x y hR => (h.old x y hR).bind fun a b hab => by
  rcases hab with hab | hab
  ·exact .base (.inl hab)
  ·exact key a b hab⟩
theorem JInv.unite {t : Mach} (v : TV t) {I : Nat} (hI : t.ins = (I : Int)) {R : Nat → Nat → Prop} {up : List Nat} {W : Nat → Nat → Int × Int} {S : List (Int × Int)} {x y p q : Nat} (h : JInv t R up W (S ++ [((x : Int), (y : Int))]))
  (hq : q < t.rows.length) (hpq : p < q) (hp : rootU up p = p) (hqr : rootU up q = q) (hxy : (rootU up x = p ∧ rootU up y = q) ∨ (rootU up x = q ∧ rootU up y = p)) (hc : ∀ i, i < I → clashE (W p i) (W q i) = false) :
  JInv t R (up.set q p) (mrgW W p q I) (S ++ pushN W p q I) := by
 have hfi := h.fi.unite v hI hq hpq hp hqr hxy hc
 have hpp : pU up p = p := by have := pU_root h.fi.ok p; rwa [hp] at this
 have hqq : pU up q = q := by have := pU_root h.fi.ok q; rwa [hqr] at this
 obtain ⟨_, hr⟩ := rootU_set h.fi.ok (by rw [h.fi.len]; exact hq) hpq hpp hqq
 have hExy : Cong t R x y := by
  have := (h.mem ((x : Int), (y : Int)) (by simp)).2.2.2.2
  simpa using this
 have hEpq : Cong t R p q := by
  rcases hxy with ⟨k1, k2⟩ | ⟨k1, k2⟩
  ·exact .trans (.symm (h.sub x p (by rw [k1, hp]))) (.trans hExy (h.sub y q (by rw [k2, hqr])))
  ·exact .trans (.symm (h.sub y p (by rw [k2, hp]))) (.trans (.symm hExy) (h.sub x q (by rw [k1, hqr])))
 refine ⟨hfi, fun a b hab => ?_, fun e he => ?_, fun a b hab => (h.old a b hab).bind fun a b hab => ?_⟩
 ·have key : ∀ z, Cong t R z (rootU (up.set q p) z) := fun z => by
    rw [hr]
    by_cases e : rootU up z = q
    ·rw [if_pos e]
     exact .trans (h.sub z q (by rw [e, hqr])) (.symm hEpq)
    ·rw [if_neg e]
     exact h.sub z _ (rootU_root h.fi.ok z).symm
  exact .trans (key a) (by rw [hab]; exact .symm (key b))
 ·rcases List.mem_append.1 he with he | he
  ·exact h.mem e (List.mem_append_left _ he)
  ·obtain ⟨i, hi, hb, rfl⟩ := mem_pushN.1 he
   obtain ⟨b1, b2⟩ := bothE_iff.1 hb
   have hiI : (i : Int) < t.ins := by omega
   obtain ⟨m1, c1, c2, c3⟩ := h.fi.row p i (by omega) hp hiI (knownE_to b1)
   obtain ⟨m2, d1, d2, d3⟩ := h.fi.row q i hq hqr hiI (knownE_to b2)
   rw [c3] at b1 ⊢
   rw [d3] at b2 ⊢
   have e1 := v.to c1 hiI b1
   have e2 := v.to d1 hiI b2
   have hm : Cong t R m1 m2 := .trans (h.sub m1 p (by rw [c2, hp])) (.trans hEpq (h.sub q m2 (by rw [d2, hqr])))
   refine ⟨by simp only; omega, by simp only; omega, by simp only; omega, by simp only; omega, .step hm hiI (bothE_iff.2 ⟨b1, b2⟩)⟩
 ·rcases hab with hab | hab
  ·exact .base (.inl (by rw [hr, hr, hab]))
  ·rcases inS2_snoc hab with hab | ⟨rfl, rfl⟩
   ·exact .base (.inr (List.mem_append_left _ hab))
   ·refine .base (.inl ?_)
    rw [hr, hr]
    rcases hxy with ⟨k1, k2⟩ | ⟨k1, k2⟩ <;> rw [k1, k2] <;> simp
theorem JInv.bad {t : Mach} {I : Nat} (hI : t.ins = (I : Int)) {R : Nat → Nat → Prop} {up : List Nat} {W : Nat → Nat → Int × Int} {S : List (Int × Int)} {x y p q : Nat} (h : JInv t R up W (S ++ [((x : Int), (y : Int))]))
  (hq : q < t.rows.length) (hpq : p < q) (hp : rootU up p = p) (hqr : rootU up q = q) (hxy : (rootU up x = p ∧ rootU up y = q) ∨ (rootU up x = q ∧ rootU up y = p)) (hc : ∃ i, i < I ∧ clashE (W p i) (W q i) = true) : Clash t R := by
 have hExy : Cong t R x y := by
  have := (h.mem ((x : Int), (y : Int)) (by simp)).2.2.2.2
  simpa using this
 have hEpq : Cong t R p q := by
  rcases hxy with ⟨k1, k2⟩ | ⟨k1, k2⟩
  ·exact .trans (.symm (h.sub x p (by rw [k1, hp]))) (.trans hExy (h.sub y q (by rw [k2, hqr])))
  ·exact .trans (.symm (h.sub y p (by rw [k2, hp]))) (.trans (.symm hExy) (h.sub x q (by rw [k1, hqr])))
 obtain ⟨i, hi, hcl⟩ := hc
 obtain ⟨k1, k2⟩ := clashE_known hcl
 obtain ⟨m1, c1, c2, c3⟩ := h.fi.row p i (by omega) hp (by omega) k1
 obtain ⟨m2, d1, d2, d3⟩ := h.fi.row q i hq hqr (by omega) k2
 rw [c3, d3] at hcl
 exact ⟨m1, m2, i, .trans (h.sub m1 p (by rw [c2, hp])) (.trans hEpq (h.sub q m2 (by rw [d2, hqr]))), by omega, hcl⟩
theorem FI.cong {t : Mach} {R : Nat → Nat → Prop} {up : List Nat} {W : Nat → Nat → Int × Int} (h : FI t up W fun _ _ => False) (hR : ∀ x y, R x y → rootU up x = rootU up y) {x y : Nat} (hc : Cong t R x y) : rootU up x = rootU up y := by
 induction hc with
 | base h => exact hR _ _ h
 | refl x => rfl
 | symm _ ih => exact ih.symm
 | trans _ _ ih1 ih2 => exact ih1.trans ih2
 | step _ hi hb ih =>
   rename_i x y i _
   obtain ⟨b1, b2⟩ := bothE_iff.1 hb
   have hx := eT_in b1
   have hy := eT_in b2
   obtain ⟨c1, c2, c3⟩ := h.node x i hx hi (knownE_to b1)
   obtain ⟨d1, d2, d3⟩ := h.node y i hy hi (knownE_to b2)
   rw [← ih] at d1 d2 d3
   have e1 : (W (rootU up x) i).1 ≠ -1 := fun e => b1 (((clashE_iff (knownE_to b1) c1).1 c2).1.2 e)
   have f1 := c3 (bothE_iff.2 ⟨b1, e1⟩)
   have f2 := d3 (bothE_iff.2 ⟨b2, e1⟩)
   have e : (fun a b => rootU up a = rootU up b ∨ False) = fun a b => rootU up a = rootU up b := by funext a b; simp
   rw [e] at f1 f2
   exact f1.fn.trans f2.fn.symm
theorem FI.noclash {t : Mach} {up : List Nat} {W : Nat → Nat → Int × Int} {P : Nat → Nat → Prop} (h : FI t up W P) {x y i : Nat} (hxy : rootU up x = rootU up y) (hi : (i : Int) < t.ins) : clashE (eT t x i) (eT t y i) = false := by
 cases hc : clashE (eT t x i) (eT t y i) with
 | false => rfl
 | true =>
   obtain ⟨k1, k2⟩ := clashE_known hc
   have hin : ∀ {m : Nat}, knownE (eT t m i) = true → m < t.rows.length := fun {m} hk => by
    refine Nat.lt_of_not_le fun hm => ?_
    have : eT t m i = (-1, -1) := by rw [eT, List.getElem?_eq_none hm]; rfl
    rw [this] at hk; cases hk
   obtain ⟨c1, c2, _⟩ := h.node x i (hin k1) hi k1
   obtain ⟨d1, d2, _⟩ := h.node y i (hin k2) hi k2
   rw [← hxy] at d1 d2
   rw [clashE_iff k1 c1] at c2
   rw [clashE_iff k2 d1] at d2
   rw [← hc]
   refine (clashE_iff k1 k2).2 ⟨c2.1.trans d2.1.symm, fun hn => ?_⟩
   rw [c2.2 hn, d2.2 fun e => hn (c2.1.2 (d2.1.1 e))]
theorem inS2_nil (up : List Nat) : (fun a b => rootU up a = rootU up b ∨ inS2 [] a b) = fun a b => rootU up a = rootU up b := by funext a b; simp [inS2]
theorem JInv.done {t : Mach} {R : Nat → Nat → Prop} {up : List Nat} {W : Nat → Nat → Int × Int} (h : JInv t R up W []) :
  FI t up W (fun _ _ => False) ∧ (∀ x y, rootU up x = rootU up y ↔ Cong t R x y) ∧ ¬ Clash t R := by
 have hf : FI t up W fun _ _ => False := h.fi.less fun a b hab => by cases hab
 have hR : ∀ x y, R x y → rootU up x = rootU up y := fun x y hxy => by
  have := h.old x y hxy
  rw [inS2_nil] at this
  exact this.fn
 refine ⟨hf, fun x y => ⟨h.sub x y, fun hc => hf.cong hR hc⟩, fun ⟨x, y, i, h1, h2, h3⟩ => ?_⟩
 have := hf.noclash (hf.cong hR h1) h2
 rw [h3] at this; cases this
def joinR (up : List Nat) (a b : Nat) : Nat → Nat → Prop := fun x y => rootU up x = rootU up y ∨ (x = a ∧ y = b)
theorem JInv.start {t : Mach} {up : List Nat} {W : Nat → Nat → Int × Int} (h : FI t up W fun _ _ => False) {a b : Nat} (ha : a < t.rows.length) (hb : b < t.rows.length) : JInv t (joinR up a b) up W [((a : Int), (b : Int))] := by
 refine ⟨h.less fun _ _ h => h.elim, fun x y hxy => .base (.inl hxy), fun e he => ?_, fun x y hxy => ?_⟩
 ·have := List.mem_singleton.1 he
  subst this
  refine ⟨by simp, by simp, by simp only; omega, by simp only; omega, ?_⟩
  simp only [Int.toNat_natCast]
  exact .base (.inr ⟨rfl, rfl⟩)
 ·rcases hxy with hxy | ⟨rfl, rfl⟩
  ·exact .base (.inl hxy)
  ·exact .base (.inr (List.mem_singleton.2 rfl))
end Go.Avl
namespace Go.Avl
open Go Go.Proofs.Try
set_option maxRecDepth 10000
set_option linter.unusedSimpArgs false
theorem foldM_ren {N I : Nat} (hN : N ≤ 1000000) (up : List Nat) (W : Nat → Nat → Int × Int) : renMem (foldM N I up W) (osegK [(1000200, 1000200), (1000201, 1000201), (1000202, 1000202)] N []) (osegK [(1000200, 1000200), (1000201, 1000201), (1000202, 1000202)] N []) = foldM N I up W := by
 have hlo : ∀ k, k < N → rlook (osegK [(1000200, 1000200), (1000201, 1000201), (1000202, 1000202)] N []) (2000000 + k) = some (2000000 + k) := fun k hk => rlook_osegK_lo hk hN (A := [(1000200, 1000200), (1000201, 1000201), (1000202, 1000202)]) rfl
 unfold foldM
 simp only [go_sem, rlook_osegK_hi hN, List.cons_append, List.nil_append, List.append_nil, renMem_oK_cons hN, otab_ren 2 norefs_edgeC, ocell_ren hlo, ite_self, if_true]
set_option maxHeartbeats 8000000 in
theorem join43_body {t : Mach} (v : TV t) {I : Nat} (hI : t.ins = (I : Int)) {up : List Nat} {W : Nat → Nat → Int × Int} (hF : FI t up W fun _ _ => False) {a b : Nat} (ha : a < t.rows.length) (hb : b < t.rows.length) {R : AV → Mem → Nat → Prop}
  (hRt : ¬ Clash t (joinR up a b) → ∀ up' W', FI t up' W' (fun _ _ => False) → (∀ x y, rootU up' x = rootU up' y ↔ Cong t (joinR up a b) x y) → R (.sc (.bool true)) (foldM t.rows.length I up' W') 3000000)
  (hRf : Clash t (joinR up a b) → ∀ up' W', up'.length = t.rows.length → R (.sc (.bool false)) (foldM t.rows.length I up' W') 3000000) :
  BodyIs prog 43 [.rf 1000200 0, .sc (.int .i64 a), .sc (.int .i64 b)] (foldM t.rows.length I up W) 3000000 R := by
 have hrw := v.rows
 have hin := v.ins
 have hJ := JInv.start hF ha hb
 obtain ⟨N, hN⟩ : ∃ N, N = t.rows.length := ⟨_, rfl⟩
 rw [← hN] at hrw hRt hRf ha hb ⊢
 have hn1 : N ≤ 1000000 := by omega
 have hNN : N * N ≤ 65537 * 65537 := Nat.mul_le_mul hrw.2 hrw.2
 have hs0 := sumR_le hF.ok N
 obtain ⟨B, hB⟩ : ∃ B, B = 17 * sumR up N + 17 := ⟨_, rfl⟩
 refine BodyIs.of (nv := 4) (hid := [6, 7, 8, 9, 10, 11, 19, 41, 50, 15, 42, 45, 48]) func43 rfl (by kernel_rfl) (by simp [ntmps43]) fun h0 => ?_
 rw [ntmps43, results43]
 have hlo : ∀ k, k < N → rlook (joinK N) (2000000 + k) = some (2000000 + k) := fun k hk => rlook_osegK_lo hk hn1 (A := [(1000200, 1000200), (1000201, 1000201), (1000202, 1000202), (3000000, 3000000), (3000001, 3000001), (3000002, 3000002)]) rfl
 have hhi : ∀ k, notO k = true → rlook (joinK N) k = rlook [(1000200, 1000200), (1000201, 1000201), (1000202, 1000202), (3000000, 3000000), (3000001, 3000001), (3000002, 3000002)] k := fun k hk => by rw [joinK, rlook_osegK_hi hn1 _ _ _ hk, List.append_nil]
 have hgk : gcOk 3000000 3000003 (joinK N) = true := osegK_ok (A := [(1000200, 1000200), (1000201, 1000201), (1000202, 1000202), (3000000, 3000000), (3000001, 3000001), (3000002, 3000002)]) rfl rfl rfl hn1 (by omega)
 unfold foldM
 refine EvC.seq (EvC.rg (by simp only [go_sem] <;> rfl) (by simp) ?_)
 refine EvC.scope ?_
 refine EvC.seq (EvC.rg (by simp only [go_sem] <;> rfl) (by simp) ?_)
 refine EvC.seq (EvC.rg (by simp only [go_sem] <;> rfl) (by simp) ?_)
 refine EvC.toTv 3000005 ?_
 refine EvC.seq (EvC.label ?_)
 refine EvC.seq ?_
 refine EvC.block ?_
 refine EvC.loopS (σ := List Nat × (Nat → Nat → Int × Int) × List (Int × Int) × List (Int × Int)) (fun g => ⟨[(3, .rf 3000000 0), (7, .rf 3000001 0), (8, .fn 69 [.rf 3000000 0, .rf 3000001 0])], [], joinM N I g.1 g.2.1 g.2.2.2.length g.2.2.1.length g.2.2.2, 3000003⟩) (fun g => 17 * sumR g.1 N + g.2.2.1.length)
  (fun g => JInv t (joinR up a b) g.1 g.2.1 g.2.2.1 ∧ 17 * sumR g.1 N + g.2.2.1.length + 16 ≤ B ∧ g.2.2.2.take g.2.2.1.length = g.2.2.1 ∧ g.2.2.2 ≠ [] ∧ g.2.2.1.length ≤ g.2.2.2.length ∧ g.2.2.2.length ≤ B) [3, 7, 8] 3000003 ?_ ?_
 ·refine ⟨osegK [(1000200, 1000200), (1000201, 1000201), (1000202, 1000202), (3000000, 3000000), (3000006, 3000001), (3000005, 3000002)] N [], (up, W, [((a : Int), (b : Int))], [((a : Int), (b : Int))]), osegK_ok (A := [(1000200, 1000200), (1000201, 1000201), (1000202, 1000202), (3000000, 3000000), (3000006, 3000001), (3000005, 3000002)]) rfl rfl rfl hn1 (by omega), ?_, hJ, by simp only [List.length_singleton]; omega, rfl, by simp, Nat.le_refl _, by simp; omega⟩
  have hlo' : ∀ k, k < N → rlook (osegK [(1000200, 1000200), (1000201, 1000201), (1000202, 1000202), (3000000, 3000000), (3000006, 3000001), (3000005, 3000002)] N []) (2000000 + k) = some (2000000 + k) := fun k hk => rlook_osegK_lo hk hn1 (A := [(1000200, 1000200), (1000201, 1000201), (1000202, 1000202), (3000000, 3000000), (3000006, 3000001), (3000005, 3000002)]) rfl
  simp only [go_sem, joinM, memMap_otab, rlook_osegK_hi hn1, List.cons_append, List.nil_append, List.append_nil, renMem_oK_cons hn1, otab_ren 2 norefs_edgeC, ocell_ren hlo', ite_self, norefs_edges, if_true, edgeC, List.map_cons, List.map_nil, List.length_singleton] <;> rfl
 have hBb : B ≤ 1000000000000 := by omega
 clear hJ hF hs0 hB
 rintro ⟨u, W, S, E⟩ ⟨h1, h2, h3, h4, h5, h6⟩
 simp only at h1 h2 h3 h4 h5 h6 ⊢
 have hul : (u.map natC).length = N := by rw [List.length_map, h1.fi.len, hN]
 have htl := ocell_len I N
 have htk : (List.take S.length (E.map edgeC)).length = S.length := by rw [List.length_take, List.length_map]; omega
 unfold joinM
 refine EvC.seq ?_
 refine EvC.seq (EvC.rg (by simp only [go_sem, htk] <;> rfl) (by simp) ?_)
 refine EvC.cond (by simp only [go_sem] <;> rfl) (fun hc => ?_) (fun hc => ?_)
 rotate_left
 ·
  have hS0 : S = [] := by
   have : ¬ 0 < S.length := by simpa using hc
   exact List.length_eq_zero_iff.1 (by omega)
  subst hS0
  obtain ⟨k1, k2, k3⟩ := h1.done
  refine EvC.exit ?_
  refine EvC.seq (EvC.rg (by simp only [go_sem] <;> rfl) (by simp) ?_)
  have hlo3 : ∀ k, k < N → rlook (osegK [(1000200, 1000200), (1000201, 1000201), (1000202, 1000202)] N []) (2000000 + k) = some (2000000 + k) := fun k hk => rlook_osegK_lo hk hn1 (A := [(1000200, 1000200), (1000201, 1000201), (1000202, 1000202)]) rfl
  refine EvC.gcE (st2 := ⟨[(6, .sc (.bool true))], [], foldM N I u W, 3000000⟩) [6] (osegK [(1000200, 1000200), (1000201, 1000201), (1000202, 1000202)] N []) 3000000 (osegK_ok (A := [(1000200, 1000200), (1000201, 1000201), (1000202, 1000202)]) rfl rfl rfl hn1 (by omega)) ?_ ?_
  ·unfold foldM
   simp only [go_sem, rlook_osegK_hi hn1, List.cons_append, List.nil_append, List.append_nil, renMem_oK_cons hn1, otab_ren 2 norefs_edgeC, ocell_ren hlo3, ite_self, if_true] <;> rfl
  refine EvC.ret ⟨.inl rfl, _, (by simp only [go_sem] <;> rfl), ?_⟩
  exact hRt k3 u W k1 k2
 have hS0 : 0 < S.length := by simpa using hc
 clear hc
 refine EvC.skip ?_
 refine EvC.block ?_
 obtain ⟨T, xy, hT⟩ : ∃ T xy, S = T ++ [xy] := by
  rcases List.eq_nil_or_concat S with h | ⟨T, xy, h⟩
  ·rw [h] at hS0; simp at hS0
  ·exact ⟨T, xy, by rw [h, List.concat_eq_append]⟩
 have hm := h1.mem xy (by rw [hT]; simp)
 obtain ⟨x, y, hxy⟩ : ∃ x y : Nat, xy = ((x : Int), (y : Int)) := ⟨xy.1.toNat, xy.2.toNat, by rw [Int.toNat_of_nonneg hm.1, Int.toNat_of_nonneg hm.2.1]⟩
 subst hxy
 simp only at hm
 have hx : x < N := by omega
 have hy : y < N := by omega
 have hTl : S.length = T.length + 1 := by rw [hT]; simp
 have hEl : (E.map edgeC).length = E.length := List.length_map _
 have hget : (E.map edgeC)[T.length]? = some [.sc (.int .i64 (x : Int)), .sc (.int .i64 (y : Int))] := by
  have : E[T.length]? = some ((x : Int), (y : Int)) := by
   have h : (E.take S.length)[T.length]? = some ((x : Int), (y : Int)) := by rw [h3, hT]; simp
   rw [List.getElem?_take] at h
   split at h
   ·exact h
   ·cases h
  rw [List.getElem?_map, this]; rfl
 rw [hTl] at h2 h3 h5 htk ⊢
 have hcl1 : ((T.length : Int) + 1 - 1).toNat = T.length := by omega
 have hE0 : E.length ≠ 0 := by simpa using h4
 have hi64 : inI64 ((T.length : Int) + 1 - 1) = true := inI64_of (by omega) (by omega)
 have hi64' : inI64 (T.length : Int) = true := inI64_of (by omega) (by omega)
 refine EvC.seq (EvC.rg (by simp only [go_sem, hEl, htk, hcl1, hget, Int.natCast_add, Int.natCast_one] <;> rfl) (by simp [hi64, hi64']; try omega) ?_)
 refine EvC.seq (EvC.rg (by simp only [go_sem, hEl, htk, hcl1, Int.natCast_add, Int.natCast_one, Nat.sub_zero] <;> rfl) (by simp [hi64, hi64']; (try exact h4); (try omega)) ?_)
 have hmd : ∀ W k, notO k = true → mdel (otab 2 edgeC W N I) k = otab 2 edgeC W N I := fun W k hk => mdel_otab _ _ _ (by omega) k hk
 refine EvC.frzB 3000012 (by simp only [go_sem, hmd W 3000012 rfl] <;> rfl) ?_
 have hulen : u.length = N := by rw [h1.fi.len, hN]
 obtain ⟨q1, q2, q3, q4⟩ := halved_ok h1.fi.ok (n := x) (by omega)
 have w1 := least44_is h1.fi.ok (by omega) (n := x) (by omega)
 rw [hulen] at w1
 obtain ⟨u1, hu1⟩ : ∃ u1, u1 = halved u x := ⟨_, rfl⟩
 rw [← hu1] at q2 q3 q4 w1
 have hu1len : u1.length = N := by rw [q3, hulen]
 obtain ⟨r1, r2, r3, r4⟩ := halved_ok q2 (n := y) (by omega)
 have w2 := least44_is q2 (by omega) (n := y) (by omega)
 rw [hu1len] at w2
 obtain ⟨u2, hu2⟩ : ∃ u2, u2 = halved u1 y := ⟨_, rfl⟩
 rw [← hu2] at r2 r3 r4 w2
 have hu2len : u2.length = N := by rw [r3, hu1len]
 have hroot : ∀ k, rootU u2 k = rootU u k := fun k => by rw [r4, q4]
 rw [q4] at w2
 have hul1 : (u1.map natC).length = N := by rw [List.length_map, hu1len]
 have hul2 : (u2.map natC).length = N := by rw [List.length_map, hu2len]
 have hJ2 := h1.same r2 (by rw [r3, q3]) hroot
 apply EvC.seq
 apply EvC.drw mixed
 ·apply Tr.run
  ·simp only [go_sem] <;> rfl
  ·simp
  apply Tr.cons
  ·exact .callW (i := 1000200) (u := 1000201) rfl rfl (by simp only [go_sem] <;> rfl) (by simp only [go_sem] <;> rfl) (by simp only [go_sem] <;> rfl) (by simp only [go_sem] <;> rfl) (by simp only [go_sem] <;> rfl) (by simp only [go_sem] <;> rfl) hul.symm (by omega) (by rw [hul1, hul]) (norefs_natC _) (norefs_natC _) rfl rfl (by simp only [go_sem] <;> rfl) w1
  apply Tr.run
  ·simp only [go_sem] <;> rfl
  ·simp
  apply Tr.cons
  ·exact .callW (i := 1000200) (u := 1000201) rfl rfl (by simp only [go_sem] <;> rfl) (by simp only [go_sem] <;> rfl) (by simp only [go_sem] <;> rfl) (by simp only [go_sem] <;> rfl) (by simp only [go_sem] <;> rfl) (by simp only [go_sem] <;> rfl) hul1.symm (by omega) (by rw [hul2, hul1]) (norefs_natC _) (norefs_natC _) rfl rfl (by simp only [go_sem] <;> rfl) w2
  apply Tr.done
  ·simp only [go_sem] <;> rfl
  ·simp
 ·kernel_rfl
 have hrx : rootU u x < N := by have := rootU_le h1.fi.ok x; omega
 have hry : rootU u y < N := by have := rootU_le h1.fi.ok y; omega
 have hrx2 : rootU u2 x = rootU u x := hroot x
 have hry2 : rootU u2 y = rootU u y := hroot y
 have hrrx : rootU u2 (rootU u x) = rootU u x := by rw [hroot, rootU_root h1.fi.ok]
 have hrry : rootU u2 (rootU u y) = rootU u y := by rw [hroot, rootU_root h1.fi.ok]
 have hsum := sumR_same hroot N
 generalize rootU u x = rx at *
 generalize rootU u y = ry at *
 refine EvC.seq ?_
 refine EvC.seq (EvC.rg (by simp only [go_sem] <;> rfl) (by simp) ?_)
 refine EvC.cond (by simp only [go_sem] <;> rfl) (fun hc => ?_) (fun hc => ?_)
 ·have hc : rx = ry := by have : (rx : Int) = ry := by simpa using hc
                          omega
  refine EvC.exit ?_
  rw [hT] at hJ2
  have hd := hJ2.drop (show rootU u2 x = rootU u2 y by omega)
  have hTE : E.take T.length = T := by
   have := congrArg (List.take T.length) h3
   rw [List.take_take, Nat.min_eq_left (by omega), hT, List.take_left] at this
   exact this
  refine ⟨joinK N, (u2, W, T, E), hgk, ?_, ⟨hd, by simp only; omega, hTE, h4, by simp only; omega, h6⟩, by simp only; omega⟩
  have hlo' := hlo
  have hhi' := hhi
  rw [joinK] at hlo' hhi' ⊢
  simp only [go_sem, joinM, hhi', List.cons_append, List.nil_append, List.append_nil, renMem_oK_cons hn1, otab_ren 2 norefs_edgeC, ocell_ren hlo', ite_self, norefs_edges, if_true] <;> rfl
 have hc : rx ≠ ry := by have : ¬ (rx : Int) = ry := by simpa using hc
                         omega
 refine EvC.skip ?_
 obtain ⟨p, q, hp1, hq1, hpq, hqN, hpr, hqr, hxy⟩ : ∃ p q : Nat, (if (rx : Int) ≤ ry then (rx : Int) else ry) = p ∧ (if (rx : Int) ≤ ry then (ry : Int) else rx) = q ∧ p < q ∧ q < N ∧ rootU u2 p = p ∧ rootU u2 q = q ∧ ((rootU u2 x = p ∧ rootU u2 y = q) ∨ (rootU u2 x = q ∧ rootU u2 y = p)) := by
  by_cases h : rx < ry
  ·exact ⟨rx, ry, by rw [if_pos (by omega)], by rw [if_pos (by omega)], h, hry, hrrx, hrry, .inl ⟨hrx2, hry2⟩⟩
  ·exact ⟨ry, rx, by rw [if_neg (by omega)], by rw [if_neg (by omega)], by omega, hrx, hrry, hrrx, .inr ⟨hrx2, hry2⟩⟩
 rw [hT] at hJ2
 apply EvC.seq
 apply EvC.rs
 ·simp only [go_sem, hp1, hq1] <;> rfl
 ·simp
 refine XR.gcTo ⟨[(3, .rf 3000000 0), (7, .rf 3000001 0), (8, .fn 69 [.rf 3000000 0, .rf 3000001 0]), (42, .fn 69 [.rf 3000000 0, .rf 3000001 0]), (45, .sc (.int .i64 p)), (48, .sc (.int .i64 q))], [], joinM N I u2 W E.length T.length E, 3000003⟩ [3, 7, 8, 42, 45, 48] (joinK N) hgk ?_ ?_
 ·have hlo' := hlo
  have hhi' := hhi
  rw [joinK] at hlo' hhi' ⊢
  simp only [go_sem, joinM, hhi', List.cons_append, List.nil_append, List.append_nil, renMem_oK_cons hn1, otab_ren 2 norefs_edgeC, ocell_ren hlo', ite_self, norefs_edges, if_true] <;> rfl
 have hTE : E.take T.length = T := by
  have := congrArg (List.take T.length) h3
  rw [List.take_take, Nat.min_eq_left (by omega), hT, List.take_left] at this
  exact this
 apply XR.callI rfl rfl (by simp only [go_sem] <;> rfl) (by simp only [go_sem] <;> rfl) (by simp only [go_sem] <;> rfl)
 refine unite69_body (by omega) ⟨by omega, by omega⟩ hu2len W (show p < N by omega) hqN (by omega) T E B hBb hTE h4 (by omega) (by omega) h6 ?_ ?_
 ·intro hcl E' k1 k2 k3 k4
  apply XR.done
  ·simp only [go_sem] <;> rfl
  ·simp
  refine EvC.cond_false (by simp only [go_sem] <;> rfl) ?_
  have hJ3 := hJ2.unite v hI (by omega) hpq hpr hqr hxy hcl
  have hpp : pU u2 p = p := by have := pU_root hJ2.fi.ok p; rwa [hpr] at this
  have hqq : pU u2 q = q := by have := pU_root hJ2.fi.ok q; rwa [hqr] at this
  obtain ⟨_, hrs⟩ := rootU_set hJ2.fi.ok (by omega) hpq hpp hqq
  have hless := (sumR_less (up := u2) (up' := u2.set q p) (q := q) (fun k => by
   rw [hrs]
   split
   ·omega
   ·exact Nat.le_refl _) (by rw [hrs, hqr, if_pos rfl]; exact hpq) N).2 hqN
  have hpl := pushN_len W p q I
  have hTl2 : (T ++ pushN W p q I).length = T.length + (pushN W p q I).length := List.length_append
  refine EvC.skip ⟨joinK N, (u2.set q p, mrgW W p q I, T ++ pushN W p q I, E'), hgk, ?_, ⟨hJ3, by simp only; omega, k1, k2, k3, k4⟩, by simp only; omega⟩
  have hlo' := hlo
  have hhi' := hhi
  rw [joinK] at hlo' hhi' ⊢
  simp only [go_sem, joinM, hhi', List.cons_append, List.nil_append, List.append_nil, renMem_oK_cons hn1, otab_ren 2 norefs_edgeC, ocell_ren hlo', ite_self, norefs_edges, if_true] <;> rfl
 ·intro hcl W' k E' k1
  apply XR.done
  ·simp only [go_sem] <;> rfl
  ·simp
  refine EvC.cond_true (by simp only [go_sem] <;> rfl) ?_
  refine EvC.seq (EvC.rg (by simp only [go_sem] <;> rfl) (by simp) ?_)
  have hlo3 : ∀ k, k < N → rlook (osegK [(1000200, 1000200), (1000201, 1000201), (1000202, 1000202)] N []) (2000000 + k) = some (2000000 + k) := fun k hk => rlook_osegK_lo hk hn1 (A := [(1000200, 1000200), (1000201, 1000201), (1000202, 1000202)]) rfl
  refine EvC.gcE (st2 := ⟨[(6, .sc (.bool false))], [], foldM N I u2 W', 3000000⟩) [6] (osegK [(1000200, 1000200), (1000201, 1000201), (1000202, 1000202)] N []) 3000000 (osegK_ok (A := [(1000200, 1000200), (1000201, 1000201), (1000202, 1000202)]) rfl rfl rfl hn1 (by omega)) ?_ ?_
  ·unfold foldM joinM
   simp only [go_sem, rlook_osegK_hi hn1, List.cons_append, List.nil_append, List.append_nil, renMem_oK_cons hn1, otab_ren 2 norefs_edgeC, ocell_ren hlo3, ite_self, if_true] <;> rfl
  refine EvC.ret ⟨.inl rfl, _, (by simp only [go_sem] <;> rfl), ?_⟩
  exact hRf (hJ2.bad hI (by omega) hpq hpr hqr hxy hcl) u2 W' hu2len
end Go.Avl
namespace Go.Avl
open Go Go.Proofs.Try
set_option maxRecDepth 10000
set_option linter.unusedSimpArgs false
def rootsL (up : List Nat) (N : Nat) : List Nat := (List.range N).map (rootU up)
theorem rootsL_len (up : List Nat) (N : Nat) : (rootsL up N).length = N := by simp [rootsL]
theorem rootsL_get {up : List Nat} {N n : Nat} (h : n < N) : pU (rootsL up N) n = rootU up n := by
 unfold pU rootsL
 rw [List.getElem?_map, List.getElem?_range h]; rfl
theorem pU_out {up : List Nat} {n : Nat} (h : up.length ≤ n) : pU up n = n := by unfold pU; rw [List.getElem?_eq_none h]; rfl
structure Can (c : List Nat) : Prop where
 le : UpOk c
 fix : ∀ n, pU c (pU c n) = pU c n
theorem Can.root {c : List Nat} (h : Can c) (n : Nat) : rootU c n = pU c n := by
 rw [rootU_eq h.le]
 split
 ·rename_i hn; exact hn.symm
 ·exact rootU_fix h.le (h.fix n)
theorem rootsL_can {up : List Nat} (h : UpOk up) {N : Nat} (hl : up.length = N) : Can (rootsL up N) := by
 have key : ∀ n, pU (rootsL up N) n = rootU up n := fun n => by
  by_cases hn : n < N
  ·exact rootsL_get hn
  ·rw [pU_out (by rw [rootsL_len]; omega), rootU_fix h (pU_out (by omega))]
 exact ⟨fun n => by rw [key]; exact rootU_le h n, fun n => by rw [key, key, rootU_root h]⟩
theorem rootsL_pU {up : List Nat} (h : UpOk up) {N : Nat} (hl : up.length = N) (n : Nat) : pU (rootsL up N) n = rootU up n := by
 by_cases hn : n < N
 ·exact rootsL_get hn
 ·rw [pU_out (by rw [rootsL_len]; omega), rootU_fix h (pU_out (by omega))]
theorem roots_same {u v : List Nat} (hu : UpOk u) (hv : UpOk v) (h : ∀ x y, rootU u x = rootU u y ↔ rootU v x = rootU v y) (n : Nat) : rootU u n = rootU v n := by
 have h1 : rootU v n ≤ rootU u n := by
  rw [← (h (rootU u n) n).1 (rootU_root hu n)]; exact rootU_le hv _
 have h2 : rootU u n ≤ rootU v n := by
  rw [← (h (rootU v n) n).2 (rootU_root hv n)]; exact rootU_le hu _
 omega
theorem rootsL_eq {u v : List Nat} {N : Nat} (h : ∀ n, rootU u n = rootU v n) : rootsL u N = rootsL v N := List.map_congr_left fun n _ => h n
theorem rootsL_fix {c : List Nat} (h : Can c) {N : Nat} (hl : c.length = N) : rootsL c N = c := by
 refine List.ext_getElem (by rw [rootsL_len, hl]) fun i h1 h2 => ?_
 have e : (rootsL c N)[i] = rootU c i := by simp [rootsL]
 rw [e, h.root, pU, List.getElem?_eq_getElem h2]; rfl
def anyClash (W : Nat → Nat → Int × Int) (p q I : Nat) : Bool := (List.range I).any fun i => clashE (W p i) (W q i)
def joinA (I : Nat) : Nat → List Nat → (Nat → Nat → Int × Int) → List (Int × Int) → Option (List Nat × (Nat → Nat → Int × Int))
 | 0, _, _, _ => none
 | _ + 1, up, W, [] => some (up, W)
 | f + 1, up, W, xy :: T =>
   if rootU up xy.1.toNat = rootU up xy.2.toNat then joinA I f up W T
   else if anyClash W (min (rootU up xy.1.toNat) (rootU up xy.2.toNat)) (max (rootU up xy.1.toNat) (rootU up xy.2.toNat)) I = true then none
   else joinA I f (up.set (max (rootU up xy.1.toNat) (rootU up xy.2.toNat)) (min (rootU up xy.1.toNat) (rootU up xy.2.toNat)))
    (mrgW W (min (rootU up xy.1.toNat) (rootU up xy.2.toNat)) (max (rootU up xy.1.toNat) (rootU up xy.2.toNat)) I) ((pushN W (min (rootU up xy.1.toNat) (rootU up xy.2.toNat)) (max (rootU up xy.1.toNat) (rootU up xy.2.toNat)) I).reverse ++ T)
theorem joinA_spec {t : Mach} (v : TV t) {I : Nat} (hI : t.ins = (I : Int)) {R : Nat → Nat → Prop} : ∀ (f : Nat) (up : List Nat) (W : Nat → Nat → Int × Int) (T : List (Int × Int)), 17 * sumR up t.rows.length + T.length < f → JInv t R up W T.reverse →
  match joinA I f up W T with
  | some (up', W') => FI t up' W' (fun _ _ => False) ∧ (∀ x y, rootU up' x = rootU up' y ↔ Cong t R x y) ∧ ¬ Clash t R
  | none => Clash t R
 | 0, _, _, _, h, _ => by omega
 | f + 1, up, W, [], _, hJ => by rw [joinA]; exact hJ.done
 | f + 1, up, W, xy :: T, hf, hJ => by
   rw [joinA]
   have hin := v.ins
   have hm := hJ.mem xy (by simp)
   obtain ⟨x, y, hxy⟩ : ∃ x y : Nat, xy = ((x : Int), (y : Int)) := ⟨xy.1.toNat, xy.2.toNat, by rw [Int.toNat_of_nonneg hm.1, Int.toNat_of_nonneg hm.2.1]⟩
   subst hxy
   rw [List.reverse_cons] at hJ
   simp only [Int.toNat_natCast, List.length_cons] at hm hf ⊢
   have hx := rootU_le hJ.fi.ok x
   have hy := rootU_le hJ.fi.ok y
   have hrrx := rootU_root hJ.fi.ok x
   have hrry := rootU_root hJ.fi.ok y
   by_cases he : rootU up x = rootU up y
   ·rw [if_pos he]
    exact joinA_spec v hI f up W T (by omega) (hJ.drop he)
   rw [if_neg he]
   obtain ⟨p, q, hp1, hq1, hpq, hqN, hpr, hqr, hxy⟩ : ∃ p q : Nat, min (rootU up x) (rootU up y) = p ∧ max (rootU up x) (rootU up y) = q ∧ p < q ∧ q < t.rows.length ∧ rootU up p = p ∧ rootU up q = q ∧ ((rootU up x = p ∧ rootU up y = q) ∨ (rootU up x = q ∧ rootU up y = p)) := by
    by_cases h : rootU up x < rootU up y
    ·exact ⟨_, _, by omega, by omega, h, by omega, hrrx, hrry, .inl ⟨rfl, rfl⟩⟩
    ·exact ⟨rootU up y, rootU up x, by omega, by omega, by omega, by omega, hrry, hrrx, .inr ⟨rfl, rfl⟩⟩
   rw [hp1, hq1]
   cases hcl : anyClash W p q I with
   | true =>
     rw [if_pos rfl]
     unfold anyClash at hcl
     rw [List.any_eq_true] at hcl
     obtain ⟨i, hi, hc⟩ := hcl
     exact hJ.bad hI hqN hpq hpr hqr hxy ⟨i, List.mem_range.1 hi, hc⟩
   | false =>
     rw [if_neg (by simp)]
     unfold anyClash at hcl
     rw [List.any_eq_false] at hcl
     have hcl' : ∀ i, i < I → clashE (W p i) (W q i) = false := fun i hi => by simpa using hcl i (List.mem_range.2 hi)
     have hJ3 := hJ.unite v hI hqN hpq hpr hqr hxy hcl'
     have hpp : pU up p = p := by have := pU_root hJ.fi.ok p; rwa [hpr] at this
     have hqq : pU up q = q := by have := pU_root hJ.fi.ok q; rwa [hqr] at this
     obtain ⟨_, hrs⟩ := rootU_set hJ.fi.ok (by rw [hJ.fi.len]; exact hqN) hpq hpp hqq
     have hless := (sumR_less (up := up) (up' := up.set q p) (q := q) (fun k => by
      rw [hrs]
      split
      ·omega
      ·exact Nat.le_refl _) (by rw [hrs, hqr, if_pos rfl]; exact hpq) t.rows.length).2 hqN
     have hpl := pushN_len W p q I
     exact joinA_spec v hI f _ _ _ (by rw [List.length_append, List.length_reverse]; omega) (by rw [List.reverse_append, List.reverse_reverse]; exact hJ3)
structure IsF (t : Mach) (c : List Nat) : Prop where
 can : Can c
 len : c.length = t.rows.length
 clo : ∀ x y i : Nat, pU c x = pU c y → (i : Int) < t.ins → clashE (eT t x i) (eT t y i) = false ∧ (bothE (eT t x i) (eT t y i) = true → pU c (eT t x i).1.toNat = pU c (eT t y i).1.toNat)
def wOf (t : Mach) (c : List Nat) (p i : Nat) : Int × Int := match (List.range c.length).find? fun m => decide (pU c m = p) && knownE (eT t m i) with
 | some m => eT t m i
 | none => (-1, -1)
theorem FI.ofF {t : Mach} {c : List Nat} (h : IsF t c) : FI t c (wOf t c) fun _ _ => False := by
 refine ⟨h.can.le, h.len, fun m i hm hi hk => ?_, fun p i hp hpr hi hk => ?_⟩
 ·rw [h.can.root]
  unfold wOf
  cases hfnd : (List.range c.length).find? fun m' => decide (pU c m' = pU c m) && knownE (eT t m' i) with
  | none =>
    rw [List.find?_eq_none] at hfnd
    exact absurd (by simp [hk]) (hfnd m (List.mem_range.2 (by rw [h.len]; exact hm)))
  | some m' =>
    have h1 := List.find?_some hfnd
    simp only [Bool.and_eq_true, decide_eq_true_eq] at h1
    simp only
    obtain ⟨h2, h3⟩ := h.clo m m' i h1.1.symm hi
    exact ⟨h1.2, h2, fun hb => .base (.inl (by rw [h.can.root, h.can.root]; exact h3 hb))⟩
 ·unfold wOf at hk ⊢
  cases hfnd : (List.range c.length).find? fun m' => decide (pU c m' = p) && knownE (eT t m' i) with
  | none => rw [hfnd] at hk; cases hk
  | some m' =>
    have h1 := List.find?_some hfnd
    have h2 := List.mem_range.1 (List.mem_of_find?_eq_some hfnd)
    simp only [Bool.and_eq_true, decide_eq_true_eq] at h1
    exact ⟨m', by rw [← h.len]; exact h2, by rw [h.can.root]; exact h1.1, rfl⟩
theorem FI.isF {t : Mach} {up : List Nat} {W : Nat → Nat → Int × Int} (h : FI t up W fun _ _ => False) : IsF t (rootsL up t.rows.length) := by
 refine ⟨rootsL_can h.ok h.len, rootsL_len _ _, fun x y i hxy hi => ?_⟩
 rw [rootsL_pU h.ok h.len, rootsL_pU h.ok h.len] at hxy
 refine ⟨h.noclash hxy hi, fun hb => ?_⟩
 rw [rootsL_pU h.ok h.len, rootsL_pU h.ok h.len]
 exact h.cong (R := fun a b => rootU up a = rootU up b) (fun _ _ h => h) (.step (.base hxy) hi hb)
def pairR (c : List Nat) (a b : Nat) : Nat → Nat → Prop := fun x y => pU c x = pU c y ∨ (x = a ∧ y = b)
theorem joinR_eq {up c : List Nat} (h : ∀ n, rootU up n = pU c n) (a b : Nat) : joinR up a b = pairR c a b := by
 funext x y; unfold joinR pairR; rw [h, h]
def foldC (t : Mach) (c : List Nat) (a b : Nat) : Option (List Nat) :=
 (joinA t.ins.toNat (17 * sumR c t.rows.length + 2) c (wOf t c) [((a : Int), (b : Int))]).map fun r => rootsL r.1 t.rows.length
theorem foldC_spec {t : Mach} (v : TV t) {c : List Nat} (hc : IsF t c) {a b : Nat} (ha : a < t.rows.length) (hb : b < t.rows.length) :
  match foldC t c a b with
  | some d => IsF t d ∧ (∀ x y, pU d x = pU d y ↔ Cong t (pairR c a b) x y) ∧ ¬ Clash t (pairR c a b)
  | none => Clash t (pairR c a b) := by
 have hin := v.ins
 have hI : t.ins = ((t.ins.toNat : Nat) : Int) := (Int.toNat_of_nonneg (by omega)).symm
 have hR := joinR_eq (up := c) (c := c) hc.can.root a b
 have h := joinA_spec v hI (R := pairR c a b) (17 * sumR c t.rows.length + 2) c (wOf t c) [((a : Int), (b : Int))] (by simp only [List.length_singleton]; omega) (by
  have := JInv.start (FI.ofF hc) ha hb
  rw [hR] at this
  exact this)
 unfold foldC
 cases hj : joinA t.ins.toNat (17 * sumR c t.rows.length + 2) c (wOf t c) [((a : Int), (b : Int))] with
 | none => rw [hj] at h; exact h
 | some r =>
   obtain ⟨up', W'⟩ := r
   rw [hj] at h
   simp only [Option.map_some] at h ⊢
   obtain ⟨h1, h2, h3⟩ := h
   exact ⟨h1.isF, fun x y => by rw [rootsL_pU h1.ok h1.len, rootsL_pU h1.ok h1.len]; exact h2 x y, h3⟩
theorem foldC_some {t : Mach} (v : TV t) {c d : List Nat} (hc : IsF t c) {a b : Nat} (ha : a < t.rows.length) (hb : b < t.rows.length) (hd : Can d) (hl : d.length = t.rows.length) (h : ∀ x y, pU d x = pU d y ↔ Cong t (pairR c a b) x y) (hn : ¬ Clash t (pairR c a b)) : foldC t c a b = some d := by
 have hs := foldC_spec v hc ha hb
 cases hf : foldC t c a b with
 | none => rw [hf] at hs; exact absurd hs hn
 | some e =>
   rw [hf] at hs
   obtain ⟨h1, h2, _⟩ := hs
   have he : ∀ n, rootU e n = rootU d n := roots_same h1.can.le hd.le fun x y => by
    rw [h1.can.root, h1.can.root, hd.root, hd.root, h2, h]
   rw [← rootsL_fix h1.can h1.len, ← rootsL_fix hd hl, rootsL_eq he]
theorem foldC_none {t : Mach} (v : TV t) {c : List Nat} (hc : IsF t c) {a b : Nat} (ha : a < t.rows.length) (hb : b < t.rows.length) (hn : Clash t (pairR c a b)) : foldC t c a b = none := by
 have hs := foldC_spec v hc ha hb
 cases hf : foldC t c a b with
 | none => rfl
 | some e => rw [hf] at hs; exact absurd hn hs.2.2
end Go.Avl
namespace Go.Avl
open Go Go.Proofs.Try
set_option maxRecDepth 10000
set_option linter.unusedSimpArgs false
def joinL (c : List Nat) (a b : Nat) : List Nat := c.map fun x => if x = max (pU c a) (pU c b) then min (pU c a) (pU c b) else x
end Go.Avl
namespace Go.Avl
open Go Go.Proofs.Try
set_option maxRecDepth 10000
set_option linter.unusedSimpArgs false
theorem joinL_len (c : List Nat) (a b : Nat) : (joinL c a b).length = c.length := by simp [joinL]
theorem joinL_pU {c : List Nat} (h : Can c) {a b : Nat} (ha : a < c.length) (hb : b < c.length) (k : Nat) : pU (joinL c a b) k = if pU c k = max (pU c a) (pU c b) then min (pU c a) (pU c b) else pU c k := by
 have h1 := h.le a
 have h2 := h.le b
 by_cases hk : k < c.length
 ·rw [show pU (joinL c a b) k = ((joinL c a b)[k]?).getD k from rfl, joinL, List.getElem?_map, pU_get hk]; rfl
 ·rw [pU_out (by rw [joinL_len]; omega), pU_out (by omega), if_neg (by omega)]
theorem joinL_can {c : List Nat} (h : Can c) {a b : Nat} (ha : a < c.length) (hb : b < c.length) : Can (joinL c a b) := by
 have hp := joinL_pU h ha hb
 have f1 := h.fix a
 have f2 := h.fix b
 have hmin : pU c (min (pU c a) (pU c b)) = min (pU c a) (pU c b) := by
  by_cases e : pU c a ≤ pU c b
  ·rw [Nat.min_eq_left e, f1]
  ·rw [Nat.min_eq_right (by omega), f2]
 refine ⟨fun n => ?_, fun n => ?_⟩
 ·rw [hp]
  have := h.le n
  split <;> omega
 ·rw [hp n]
  split
  ·rw [hp, hmin]
   split <;> omega
  ·rename_i hn
   rw [hp, h.fix, if_neg hn]
theorem joinL_mono {c : List Nat} (h : Can c) {a b : Nat} (ha : a < c.length) (hb : b < c.length) {x y : Nat} (hxy : pU c x = pU c y) : pU (joinL c a b) x = pU (joinL c a b) y := by rw [joinL_pU h ha hb, joinL_pU h ha hb, hxy]
theorem joinL_pair {c : List Nat} (h : Can c) {a b : Nat} (ha : a < c.length) (hb : b < c.length) : pU (joinL c a b) a = pU (joinL c a b) b := by
 rw [joinL_pU h ha hb, joinL_pU h ha hb]
 split <;> split <;> omega
theorem joinL_rel {c : List Nat} (h : Can c) {a b : Nat} (ha : a < c.length) (hb : b < c.length) {E : Nat → Nat → Prop} (hs : ∀ x y, E x y → E y x) (ht : ∀ x y z, E x y → E y z → E x z) (hE : ∀ x y, pU c x = pU c y → E x y) (hab : E a b) : ∀ x y, pU (joinL c a b) x = pU (joinL c a b) y → E x y := by
 have hmm : E (max (pU c a) (pU c b)) (min (pU c a) (pU c b)) := by
  have e1 : E (pU c a) (pU c b) := ht _ a _ (hE _ _ (h.fix a)) (ht _ b _ hab (hE _ _ (h.fix b).symm))
  by_cases e : pU c a ≤ pU c b
  ·rw [Nat.min_eq_left e, Nat.max_eq_right e]; exact hs _ _ e1
  ·rw [Nat.min_eq_right (by omega), Nat.max_eq_left (by omega)]; exact e1
 have key : ∀ z, E z (pU (joinL c a b) z) := fun z => by
  rw [joinL_pU h ha hb]
  split
  ·rename_i hz
   exact ht _ _ _ (hE z (pU c z) (h.fix z).symm) (by rw [hz]; exact hmm)
  ·exact hE z _ (h.fix z).symm
 intro x y hxy
 exact ht _ _ _ (key x) (by rw [hxy]; exact hs _ _ (key y))
structure RF (t : Mach) (c0 : List Nat) (a b : Nat) (c : List Nat) : Prop where
 can : Can c
 len : c.length = t.rows.length
 old : ∀ x y, pairR c0 a b x y → pU c x = pU c y
 sub : ∀ x y, pU c x = pU c y → Cong t (pairR c0 a b) x y
theorem RF.start {t : Mach} {c0 : List Nat} (h : IsF t c0) {a b : Nat} (ha : a < t.rows.length) (hb : b < t.rows.length) : RF t c0 a b (joinL c0 a b) := by
 have hl := h.len
 refine ⟨joinL_can h.can (by omega) (by omega), by rw [joinL_len, hl], fun x y hxy => ?_, ?_⟩
 ·rcases hxy with hxy | ⟨rfl, rfl⟩
  ·exact joinL_mono h.can (by omega) (by omega) hxy
  ·exact joinL_pair h.can (by omega) (by omega)
 ·exact joinL_rel h.can (by omega) (by omega) (E := Cong t (pairR c0 a b)) (fun _ _ => .symm) (fun _ _ _ => .trans) (fun x y hxy => .base (.inl hxy)) (.base (.inr ⟨rfl, rfl⟩))
theorem RF.step {t : Mach} {c0 c : List Nat} {a b : Nat} (h : RF t c0 a b c) {x y i p q : Nat} (hxy : pU c x = pU c y) (hi : (i : Int) < t.ins) (hb : bothE (eT t x i) (eT t y i) = true) (hp : (eT t x i).1 = p) (hq : (eT t y i).1 = q) (hpN : p < t.rows.length) (hqN : q < t.rows.length) : RF t c0 a b (joinL c p q) := by
 have hl := h.len
 have hs := Cong.step (h.sub x y hxy) hi hb
 rw [hp, hq, Int.toNat_natCast, Int.toNat_natCast] at hs
 exact ⟨joinL_can h.can (by omega) (by omega), by rw [joinL_len, hl], fun x y hxy => joinL_mono h.can (by omega) (by omega) (h.old x y hxy),
  joinL_rel h.can (by omega) (by omega) (E := Cong t (pairR c0 a b)) (fun _ _ => .symm) (fun _ _ _ => .trans) h.sub hs⟩
def CloF (t : Mach) (c : List Nat) (X Y Z : Nat) : Prop := ∀ x y i : Nat, y < x → x < t.rows.length → (i : Int) < t.ins → (x < X ∨ (x = X ∧ (y < Y ∨ (y = Y ∧ i < Z)))) → pU c x = pU c y → clashE (eT t x i) (eT t y i) = false ∧ (bothE (eT t x i) (eT t y i) = true → pU c (eT t x i).1.toNat = pU c (eT t y i).1.toNat)
theorem bothE_symm (a b : Int × Int) : bothE a b = bothE b a := by unfold bothE; exact Bool.and_comm _ _
theorem clashE_none {a b : Int × Int} (h : knownE a = false) : clashE a b = false := by unfold clashE; rw [h]; rfl
theorem RF.clo {t : Mach} {c0 c : List Nat} {a b : Nat} (h : RF t c0 a b c) (hc : CloF t c t.rows.length 0 0) : IsF t c := by
 refine ⟨h.can, h.len, fun x y i hxy hi => ?_⟩
 have hout : ∀ m, ¬ m < t.rows.length → eT t m i = (-1, -1) := fun m hm => by rw [eT, List.getElem?_eq_none (show t.rows.length ≤ m by omega)]; rfl
 by_cases hx : x < t.rows.length
 ·by_cases hy : y < t.rows.length
  ·rcases Nat.lt_trichotomy x y with hlt | rfl | hlt
   ·obtain ⟨k1, k2⟩ := hc y x i hlt hy hi (.inl hy) hxy.symm
    exact ⟨by rw [clashE_symm]; exact k1, fun hb => (k2 (by rw [bothE_symm]; exact hb)).symm⟩
   ·refine ⟨?_, fun _ => rfl⟩
    cases hk : knownE (eT t x i) with
    | true => exact clashE_self hk
    | false => exact clashE_none hk
   ·exact hc x y i hlt hx hi (.inl hx) hxy
  ·rw [hout y hy]
   exact ⟨by rw [clashE_symm]; exact clashE_none rfl, fun hb => absurd rfl (bothE_iff.1 hb).2⟩
 ·rw [hout x hx]
  exact ⟨clashE_none rfl, fun hb => absurd rfl (bothE_iff.1 hb).1⟩
theorem IsF.cong {t : Mach} {c : List Nat} (h : IsF t c) {R : Nat → Nat → Prop} (hR : ∀ x y, R x y → pU c x = pU c y) {x y : Nat} (hc : Cong t R x y) : pU c x = pU c y := by
 induction hc with
 | base h => exact hR _ _ h
 | refl x => rfl
 | symm _ ih => exact ih.symm
 | trans _ _ ih1 ih2 => exact ih1.trans ih2
 | step _ hi hb ih => exact (h.clo _ _ _ ih hi).2 hb
theorem RF.done {t : Mach} (v : TV t) {c0 c : List Nat} (h0 : IsF t c0) {a b : Nat} (ha : a < t.rows.length) (hb : b < t.rows.length) (h : RF t c0 a b c) (hc : CloF t c t.rows.length 0 0) : foldC t c0 a b = some c := by
 have hf := h.clo hc
 refine foldC_some v h0 ha hb h.can h.len (fun x y => ⟨h.sub x y, fun hc => hf.cong h.old hc⟩) fun ⟨x, y, i, h1, h2, h3⟩ => ?_
 have := (hf.clo x y i (hf.cong h.old h1) h2).1
 rw [h3] at this; cases this
theorem RF.bad {t : Mach} (v : TV t) {c0 c : List Nat} (h0 : IsF t c0) {a b : Nat} (ha : a < t.rows.length) (hb : b < t.rows.length) (h : RF t c0 a b c) {x y i : Nat} (hxy : pU c x = pU c y) (hi : (i : Int) < t.ins) (hc : clashE (eT t x i) (eT t y i) = true) : foldC t c0 a b = none :=
 foldC_none v h0 ha hb ⟨x, y, i, h.sub x y hxy, hi, hc⟩
theorem row_get {t : Mach} (v : TV t) {n i : Nat} (hn : n < t.rows.length) (hi : (i : Int) < t.ins) : ∃ A : Row, t.rows[n]? = some A ∧ (A.2.length : Int) = t.ins ∧ A.2[i]? = some (eT t n i) := by
 refine ⟨t.rows[n], List.getElem?_eq_getElem hn, (v.row n _ (List.getElem?_eq_getElem hn)).1, ?_⟩
 have hl := (v.row n _ (List.getElem?_eq_getElem hn)).1
 rw [eT, List.getElem?_eq_getElem hn]
 simp only [Option.map_some, Option.getD_some]
 rw [List.getElem?_eq_getElem (by omega)]; rfl
end Go.Avl
namespace Go.Avl
open Go Go.Proofs.Try
set_option maxRecDepth 10000
set_option linter.unusedSimpArgs false
theorem pU_range (n k : Nat) : pU (List.range n) k = k := by
 unfold pU
 by_cases h : k < n
 ·rw [List.getElem?_range h]; rfl
 ·rw [List.getElem?_eq_none (by simp; omega)]; rfl
theorem rootsL_range (n : Nat) : rootsL (List.range n) n = List.range n := by
 have : (List.range n).map (rootU (List.range n)) = (List.range n).map id := List.map_congr_left fun k _ => rootU_range n k
 rw [rootsL, this, List.map_id]
theorem isF_alone (t : Mach) : IsF t (List.range t.rows.length) := by
 have := (FI.alone t).isF
 rwa [rootsL_range] at this
theorem FI.fold_some {t : Mach} (v : TV t) {up c : List Nat} {W : Nat → Nat → Int × Int} (h : FI t up W fun _ _ => False) (hc : IsF t c) {a b : Nat} (ha : a < t.rows.length) (hb : b < t.rows.length) (hr : ∀ x y, rootU up x = rootU up y ↔ Cong t (pairR c a b) x y) (hn : ¬ Clash t (pairR c a b)) : foldC t c a b = some (rootsL up t.rows.length) :=
 foldC_some v hc ha hb (rootsL_can h.ok h.len) (rootsL_len _ _) (fun x y => by rw [rootsL_pU h.ok h.len, rootsL_pU h.ok h.len]; exact hr x y) hn
theorem PureIs.nilT {P : Program} {f : FuncId} {args xs : List AV} {c : Cp} (h : PureIs P f args (.tu (.sl true [] c :: xs))) : PureIs P f args (.tu (.sl true [] .zer :: xs)) :=
 ⟨h.1, fun F w vals hF hi => (h.2 F w vals hF hi).mono fun e w' ⟨v, F', k1, k2, k3⟩ => ⟨v, F', k1, by
  cases k2 with
  | tu vs cs hl hh =>
    refine .tu vs _ hl fun i h1 h2 => ?_
    cases i with
    | zero => exact (hh 0 h1 (by simp)).nil_zer
    | succ i => exact hh (i + 1) h1 (by simpa using h2), k3⟩⟩
def foldRes (t : Mach) (a b : Int) : AV :=
 if nodesE t [a, b] ≠ 0 then .tu [.sl true [] .zer, .sc (.bool false), .sc (.int .i64 (nodesE t [a, b]))]
 else match foldC t (List.range t.rows.length) a.toNat b.toNat with
  | some c => .tu [.sl false (c.map natC) .full, .sc (.bool true), .sc (.int .i64 0)]
  | none => .tu [.sl true [] .zer, .sc (.bool false), .sc (.int .i64 0)]
theorem nodesE_ok {t : Mach} {l : List Int} (h : nodesE t l = 0) : TV t ∧ ∀ x ∈ l, 0 ≤ x ∧ x < t.rows.length := by
 unfold nodesE at h
 split at h
 ·rename_i h1; exact absurd h h1
 ·rename_i h1
  split at h
  ·rename_i h2
   refine ⟨TV.of (by simpa using h1), fun x hx => ?_⟩
   rw [List.all_eq_true] at h2
   exact of_decide_eq_true (h2 x hx)
  ·cases h
def RowsF (t : Mach) : Prop := ∀ r ∈ t.rows, r.2 ≠ [] → r.1 = false
theorem TV.rowsF {t : Mach} (v : TV t) (h : RowsF t) : ∀ r ∈ t.rows, r.1 = false := fun r hr => by
 obtain ⟨i, hi, rfl⟩ := List.mem_iff_getElem.1 hr
 have := (v.row i _ (List.getElem?_eq_getElem hi)).1
 have hin := v.ins
 exact h _ hr fun e => by rw [e] at this; simp at this; omega
def rootPart (up : List Nat) (N i : Nat) : List Nat := (List.range i).map (rootU up) ++ List.replicate (N - i) 0
theorem rootPart_len {up : List Nat} {N i : Nat} (h : i ≤ N) : (rootPart up N i).length = N := by simp [rootPart]; omega
theorem rootPart_zero (up : List Nat) (N : Nat) : (rootPart up N 0).map natC = List.replicate N [.sc (.int .i64 0)] := by simp [rootPart, natC]
theorem rootPart_all (up : List Nat) (N : Nat) : rootPart up N N = rootsL up N := by simp [rootPart, rootsL]
theorem rootPart_set {up : List Nat} {N i : Nat} (h : i < N) : ((rootPart up N i).map natC).set i [.sc (.int .i64 (rootU up i : Nat))] = (rootPart up N (i + 1)).map natC := by
 obtain ⟨d, hd⟩ : ∃ d, N - i = d + 1 := ⟨N - i - 1, by omega⟩
 have hd' : N - (i + 1) = d := by omega
 rw [rootPart, rootPart, hd, hd', List.replicate_succ, List.map_append, List.set_append_right _ _ (by simp), List.length_map, List.length_map, List.length_range, Nat.sub_self, List.map_cons, List.set_cons_zero, List.range_succ, List.map_append, List.map_append, List.map_append]
 simp [natC]
theorem rootPart_get {up : List Nat} {N i : Nat} (h : i < N) : (rootPart up N i)[i]? = some 0 := by
 rw [rootPart, List.getElem?_append_right (by simp), List.length_map, List.length_range, Nat.sub_self, List.getElem?_replicate, if_pos (by omega)]
def foldRes' (t : Mach) (a b : Int) : AV :=
 if nodesE t [a, b] ≠ 0 then .tu [.sl true [] .unk, .sc (.bool false), .sc (.int .i64 (nodesE t [a, b]))]
 else match foldC t (List.range t.rows.length) a.toNat b.toNat with
  | some c => .tu [.sl false (c.map natC) .full, .sc (.bool true), .sc (.int .i64 0)]
  | none => .tu [.sl true [] .unk, .sc (.bool false), .sc (.int .i64 0)]
set_option maxHeartbeats 8000000 in
theorem fold16_is' (t : Mach) (hr : ∀ r ∈ t.rows, r.2.length < 1000000) (hf : RowsF t) (a b : Int) : PureIs prog 16 [.ag t.cells, .sc (.int .i64 a), .sc (.int .i64 b)] (foldRes' t a b) := by
 have hN := nodes37_is t hr false [a, b] .full (by simp)
 rw [show ([a, b].map intC) = [[.sc (.int .i64 a)], [.sc (.int .i64 b)]] from rfl] at hN
 unfold foldRes'
 generalize hne : nodesE t [a, b] = e at hN
 refine PureIs.of (nv := 4) (hid := [6, 7, 8, 9, 10, 11, 12, 19, 27, 33, 34, 35, 21, 31, 23, 24, 25]) func16 rfl (by kernel_rfl) (by simp [ntmps16]) fun _ => ?_
 rw [ntmps16, results16]
 refine EvC.seq (EvC.rg (by simp only [go_sem, Mach.cells] <;> rfl) (by simp) ?_)
 refine EvC.frzB 0 (by simp only [go_sem] <;> rfl) ?_
 rw [Mach.cells] at hN
 refine EvC.seq ?_
 apply EvC.seq
 apply EvC.tr
 ·apply Tr.run
  ·simp only [go_sem] <;> rfl
  ·simp
  apply Tr.cons
  ·exact .call rfl rfl (by simp only [go_sem] <;> rfl) (by simp only [go_sem] <;> rfl) (by simp only [go_sem] <;> rfl) (by simp only [go_sem] <;> rfl) (by simp only [go_sem] <;> rfl) (hN)
  apply Tr.done
  ·simp only [go_sem] <;> rfl
  ·simp
 refine EvC.seq (EvC.rg (by simp only [go_sem] <;> rfl) (by simp) ?_)
 by_cases he : e = 0
 rotate_left
 ·rw [if_pos he]
  refine EvC.cond_true (by simp only [go_sem, decide_eq_false he] <;> rfl) ?_
  refine EvC.seq (EvC.rg (by simp only [go_sem] <;> rfl) (by simp) ?_)
  refine EvC.ret ⟨.inl rfl, _, (by simp only [go_sem] <;> rfl), ?_, rfl⟩
  simp only [go_sem]
 rw [if_neg (fun h => h he)]
 subst he
 obtain ⟨v, hab⟩ := nodesE_ok hne
 have ha := hab a (by simp)
 have hb := hab b (by simp)
 obtain ⟨a', rfl⟩ : ∃ n : Nat, a = (n : Int) := ⟨a.toNat, by omega⟩
 obtain ⟨b', rfl⟩ : ∃ n : Nat, b = (n : Int) := ⟨b.toNat, by omega⟩
 rw [Int.toNat_natCast, Int.toNat_natCast]
 have haN : a' < t.rows.length := by omega
 have hbN : b' < t.rows.length := by omega
 have hin := v.ins
 have hrw := v.rows
 have hI : t.ins = ((t.ins.toNat : Nat) : Int) := (Int.toNat_of_nonneg (by omega)).symm
 have hs := fun up W (h : FI t up W fun _ _ => False) => h.fold_some v (isF_alone t) haN hbN
 have hn := foldC_none v (isF_alone t) haN hbN
 have hjR := joinR_eq (up := List.range t.rows.length) (c := List.range t.rows.length) (fun n => by rw [rootU_range, pU_range]) a' b'
 have hal := fun R => alone42_body v (v.rowsF hf) hI (R := R)
 have hjo := fun R => join43_body v hI (FI.alone t) haN hbN (R := R)
 rw [hjR] at hjo
 generalize foldC t (List.range t.rows.length) a' b' = res at hs hn ⊢
 obtain ⟨N, hNd⟩ : ∃ N, N = t.rows.length := ⟨_, rfl⟩
 rw [← hNd] at hs hn hal hjo hrw
 have hn1 : N ≤ 1000000 := by omega
 refine EvC.cond_false (by simp only [go_sem] <;> rfl) ?_
 refine EvC.skip ?_
 apply EvC.seq
 apply EvC.rs
 ·simp only [go_sem] <;> rfl
 ·simp
 refine XR.gcTo ⟨[(1, .sc (.int .i64 a')), (2, .sc (.int .i64 b')), (3, .ia t.cells), (21, .ag t.cells)], [], [], 1000100⟩ [1, 2, 3, 21] [] rfl (by simp only [go_sem, Mach.cells] <;> rfl) ?_
 apply XR.callI rfl rfl (by simp only [go_sem] <;> rfl) (by simp only [go_sem] <;> rfl) (by simp only [go_sem] <;> rfl)
 refine hal _ ?_
 apply XR.done
 ·simp only [go_sem] <;> rfl
 ·simp
 refine EvC.seq ?_
 have hlo3 : ∀ k, k < N → rlook (osegK [(1000200, 1000200), (1000201, 1000201), (1000202, 1000202)] N []) (2000000 + k) = some (2000000 + k) := fun k hk => rlook_osegK_lo hk hn1 (A := [(1000200, 1000200), (1000201, 1000201), (1000202, 1000202)]) rfl
 have hgk := osegK_ok (base := 0) (nx := 3000000) (A := [(1000200, 1000200), (1000201, 1000201), (1000202, 1000202)]) (n := N) rfl rfl rfl hn1 (by omega)
 apply EvC.seq
 apply EvC.rs
 ·simp only [go_sem] <;> rfl
 ·simp
 refine XR.gcTo ⟨[(1, .sc (.int .i64 a')), (2, .sc (.int .i64 b')), (3, .ia t.cells), (10, .rf 1000200 0), (23, .rf 1000200 0), (24, .sc (.int .i64 a')), (25, .sc (.int .i64 b'))], [], foldM N t.ins.toNat (List.range N) (eT t), 3000000⟩ [1, 2, 3, 10, 23, 24, 25] (osegK [(1000200, 1000200), (1000201, 1000201), (1000202, 1000202)] N []) hgk ?_ ?_
 ·have hff := foldM_ren (I := t.ins.toNat) hn1 (List.range N) (eT t)
  simp only [go_sem, hff, Mach.cells, rlook_osegK_hi hn1, List.append_nil] <;> rfl
 apply XR.callI rfl rfl (by simp only [go_sem] <;> rfl) (by simp only [go_sem] <;> rfl) (by simp only [go_sem] <;> rfl)
 refine hjo _ ?_ ?_
 rotate_left
 ·intro hcl up' W' _
  rw [hn hcl]
  apply XR.done
  ·simp only [go_sem] <;> rfl
  ·simp
  refine EvC.cond_true (by simp only [go_sem] <;> rfl) ?_
  refine EvC.seq (EvC.rg (by simp only [go_sem] <;> rfl) (by simp) ?_)
  refine EvC.ret ⟨.inl rfl, _, (by simp only [go_sem] <;> rfl), ?_, rfl⟩
  simp only [go_sem]
 intro hcl up W hF hroot
 rw [hs up W hF hroot hcl]
 apply XR.done
 ·simp only [go_sem] <;> rfl
 ·simp
 refine EvC.cond_false (by simp only [go_sem] <;> rfl) ?_
 refine EvC.skip ?_
 clear hs hn hjo hal
 have htk0 : (List.take N (List.replicate N [AV.sc (.int .i64 0)])).length = N := by simp
 unfold foldM
 refine EvC.seq (EvC.rg (by simp only [go_sem, Mach.cells, List.length_map, ← hNd] <;> rfl) (by simp [room_eq]; omega) ?_)
 refine EvC.seq ?_
 refine EvC.seq (EvC.rg (by simp only [go_sem, List.length_map, List.length_replicate, htk0] <;> rfl) (by simp) ?_)
 refine EvC.block ?_
 refine EvC.loopS (σ := Nat × List Nat) (fun g => ⟨[(10, .rf 1000200 0), (11, .tv 3000000 N 0 N (.val N)), (33, .sc (.int .i64 N)), (34, .sc (.int .i64 g.1))], [],
  (1000200, .cells [.tv 1000201 N 0 N .unk, .junk]) :: (1000201, .arr 1 (g.2.map natC) false) :: (3000000, .arr 1 ((rootPart up N g.1).map natC) false) :: [], 3000001⟩) (fun g => N - g.1) (fun g => g.1 ≤ N ∧ UpOk g.2 ∧ g.2.length = N ∧ ∀ k, rootU g.2 k = rootU up k) [10, 11, 33, 34] 3000001 ?_ ?_
 ·refine ⟨[(1000200, 1000200), (1000201, 1000201), (3000004, 3000000)], (0, up), rfl, ?_, Nat.zero_le _, hF.ok, by rw [hF.len, ← hNd], fun _ => rfl⟩
  have hz1 : (List.replicate N [AV.sc (.int .i64 0)]).all AV.norefs = true := by simp [List.all_eq_true, AV.norefs, AV.noref]
  simp only [go_sem, rootPart_zero, hz1, if_true, Int.natCast_zero] <;> rfl
 rintro ⟨i, u⟩ ⟨h1, h2, h3, h4⟩
 simp only at h1 h2 h3 h4 ⊢
 have hiin : (i : Int).toNat = i := Int.toNat_natCast i
 have hul : (u.map natC).length = N := by rw [List.length_map, h3]
 have hpl : ((rootPart up N i).map natC).length = N := by rw [List.length_map, rootPart_len h1]
 refine EvC.seq (EvC.rg (by simp only [go_sem] <;> rfl) (by simp) ?_)
 refine EvC.seq ?_
 refine EvC.cond (by simp only [go_sem] <;> rfl) (fun hc => ?_) (fun hc => ?_)
 rotate_left
 ·
  obtain rfl : i = N := by have : ¬ i < N := by simpa using hc
                           omega
  refine EvC.exit ?_
  rw [rootPart_all]
  have hrl := rootsL_len up i
  refine EvC.frz 3000000 (by simp only [go_sem, hrl] <;> rfl) ?_
  refine EvC.seq (EvC.rg (by simp only [go_sem, hrl] <;> rfl) (by simp) ?_)
  refine EvC.ret ⟨.inl rfl, _, (by simp only [go_sem] <;> rfl), ?_, rfl⟩
  simp only [go_sem]
 have hi : i < N := by simpa using hc
 clear hc
 refine EvC.skip ?_
 refine EvC.seq ?_
 refine EvC.block ?_
 obtain ⟨q1, q2, q3, q4⟩ := halved_ok h2 (n := i) (by omega)
 have w1 := least44_is h2 (by omega) (n := i) (by omega)
 rw [h3, h4] at w1
 have hg0 := rootPart_get (up := up) hi
 have hset := rootPart_set (up := up) hi
 obtain ⟨u1, hu1⟩ : ∃ u1, u1 = halved u i := ⟨_, rfl⟩
 rw [← hu1] at q2 q3 q4 w1
 have hul1 : (u1.map natC).length = N := by rw [List.length_map, q3, h3]
 refine EvC.seq (EvC.rg (by simp only [go_sem] <;> rfl) (by simp) ?_)
 apply EvC.tr
 ·apply Tr.run
  ·simp only [go_sem] <;> rfl
  ·simp
  apply Tr.cons
  ·exact .callW (i := 1000200) (u := 1000201) rfl rfl (by simp only [go_sem] <;> rfl) (by simp only [go_sem] <;> rfl) (by simp only [go_sem] <;> rfl) (by simp only [go_sem] <;> rfl) (by simp only [go_sem] <;> rfl) (by simp only [go_sem] <;> rfl) hul.symm (by omega) (by rw [hul1, hul]) (norefs_natC _) (norefs_natC _) rfl rfl (by simp only [go_sem] <;> rfl) w1
  apply Tr.done
  ·simp only [go_sem, hpl, hiin, hg0, natC, hset] <;> rfl
  ·simp; try omega
 refine EvC.rg (by simp only [go_sem] <;> rfl) (by exact inI64_of (by omega) (by omega)) ?_
 exact ⟨[(1000200, 1000200), (1000201, 1000201), (3000000, 3000000)], (i + 1, u1), rfl, (by simp only [go_sem, Int.natCast_add, Int.natCast_one] <;> rfl), ⟨hi, q2, by simp only; omega, fun k => by simp only; rw [q4, h4]⟩, by simp only; omega⟩
theorem fold16_is (t : Mach) (hr : ∀ r ∈ t.rows, r.2.length < 1000000) (hf : RowsF t) (a b : Int) : PureIs prog 16 [.ag t.cells, .sc (.int .i64 a), .sc (.int .i64 b)] (foldRes t a b) := by
 have h := fold16_is' t hr hf a b
 unfold foldRes' at h
 unfold foldRes
 split at h
 ·rename_i he
  rw [if_pos he]
  exact h.nilT
 ·rename_i he
  rw [if_neg he]
  split at h
  ·rename_i c hc
   exact h
  ·rename_i hc
   exact h.nilT
end Go.Avl
namespace Go.Avl
open Go Go.Proofs.Try
set_option maxRecDepth 10000
set_option linter.unusedSimpArgs false
@[go_sem] theorem key3 : isKey prog 3 = keyTest false [.int .i64] := isKey_of (by kernel_rfl) (by kernel_rfl)
def entsI : Nat → List Int → List (Value × AV)
 | _, [] => []
 | i, c :: l => (.int .i64 c, .sc (.int .i64 i)) :: entsI (i + 1) l
@[go_sem] theorem norefs_entsI : ∀ (l : List Int) (i : Nat), ((entsI i l).all fun p => p.2.noref) = true
 | [], _ => rfl
 | c :: l, i => by simp only [entsI, List.all_cons, norefs_entsI l, AV.noref, Bool.and_self]
@[go_sem] theorem entsI_len : ∀ (l : List Int) (i : Nat), (entsI i l).length = l.length
 | [], _ => rfl
 | c :: l, i => by simp only [entsI, List.length_cons, entsI_len l]
theorem eqVal_int (a b : Int) : eqVal (.int .i64 a) (.int .i64 b) = decide (a = b) := by
 simp [eqVal, Value.cells, eqCells, eqCell]
theorem elook_entsI (x : Int) : ∀ (l : List Int) (i : Nat), elook (entsI i l) (.int .i64 x) = if x ∈ l then some (.sc (.int .i64 (i + l.idxOf x : Nat))) else none
 | [], _ => rfl
 | d :: l, i => by
   simp only [entsI, elook, eqVal_int, List.mem_cons, List.idxOf_cons]
   by_cases h : x = d
   ·subst h; simp
   ·have h' : (d == x) = false := by simpa using fun e => h e.symm
    rw [if_neg (by simpa using h), elook_entsI x l (i + 1), h']
    simp only [h, false_or, cond_false]
    by_cases hc : x ∈ l
    ·rw [if_pos hc, if_pos hc, show i + 1 + l.idxOf x = i + (l.idxOf x + 1) by omega]
    ·rw [if_neg hc, if_neg hc]
theorem eset_entsI (x : Int) : ∀ (l : List Int) (i : Nat), x ∉ l → eset (entsI i l) (.int .i64 x) (.sc (.int .i64 (i + l.length : Nat))) = entsI i (l ++ [x])
 | [], _, _ => rfl
 | d :: l, i, h => by
   simp only [List.mem_cons, not_or] at h
   simp only [entsI, eset, eqVal_int, List.cons_append]
   rw [if_neg (by simpa using h.1)]
   congr 1
   have := eset_entsI x l (i + 1) h.2
   rw [show i + 1 + l.length = i + (d :: l).length by simp; omega] at this
   exact this
theorem entsI_get : ∀ (l : List Int) (i j : Nat), (entsI i l)[j]? = (l[j]?).map fun c => (.int .i64 c, .sc (.int .i64 (i + j : Nat)))
 | [], _, _ => by simp [entsI]
 | c :: l, i, 0 => by simp [entsI]
 | c :: l, i, j + 1 => by
   simp only [entsI, List.getElem?_cons_succ, entsI_get l (i + 1) j]
   congr 1
   funext c
   rw [show i + 1 + j = i + (j + 1) by omega]
def frM (N : Nat) (up : List Nat) (V : List (List AV)) : Mem := [(1000010, .cells [.tv 1000011 N 0 N .unk, .sl false V .unk]), (1000011, .arr 1 (up.map natC) false)]
def redE (up red : List Nat) : List Int := red.map fun r => ((rootU up r : Nat) : Int)
theorem redE_same {u v : List Nat} (h : ∀ k, rootU u k = rootU v k) (red : List Nat) : redE u red = redE v red := List.map_congr_left fun r _ => by rw [h]
set_option maxHeartbeats 4000000 in
theorem states48_body {N : Nat} (hN : 1 ≤ N ∧ N ≤ 70000) {up : List Nat} (hu : UpOk up) (hul : up.length = N) (V : List (List AV)) (nl : Bool) (red : List Nat) (c : Cp) (hred : ∀ r ∈ red, r < N) (hrl : red.length < 1000000) (hnd : (redE up red).Nodup) {R : AV → Mem → Nat → Prop}
  (hR : ∀ up', UpOk up' → up'.length = N → (∀ k, rootU up' k = rootU up k) → R (.mp 1000150) (frM N up' V ++ [(1000150, .map 3 (entsI 0 (redE up red)))]) 1000151) :
  BodyIs prog 48 [.rf 1000010 0, .sl nl (red.map natC) c] (frM N up V) 1000150 R := by
 refine BodyIs.of (nv := 2) (hid := [4, 5, 6, 7, 11, 12, 13, 14]) func48 rfl (by kernel_rfl) (by simp [ntmps48]) fun h0 => ?_
 rw [ntmps48, results48]
 unfold frM
 refine EvC.seq (EvC.rg (by simp only [go_sem] <;> rfl) (by simp) ?_)
 refine EvC.seq (EvC.rg (by simp only [go_sem, List.length_map] <;> rfl) (by simp) ?_)
 refine EvC.seq ?_
 refine EvC.seq (EvC.rg (by simp only [go_sem, List.length_map] <;> rfl) (by simp) ?_)
 refine EvC.block ?_
 refine EvC.loopS (σ := Nat × List Nat) (fun g => ⟨[(0, .rf 1000010 0), (5, .mp 1000150), (11, .sl nl (red.map natC) c), (12, .sc (.int .i64 red.length)), (13, .sc (.int .i64 g.1))], [], [(1000010, .cells [.tv 1000011 N 0 N .unk, .sl false V .unk]), (1000011, .arr 1 (g.2.map natC) false), (1000150, .map 3 (entsI 0 (redE up (red.take g.1))))], 1000151⟩) (fun g => red.length - g.1)
  (fun g => g.1 ≤ red.length ∧ UpOk g.2 ∧ g.2.length = N ∧ ∀ k, rootU g.2 k = rootU up k) [0, 5, 11, 12, 13] 1000151 ?_ ?_
 ·exact ⟨[(1000010, 1000010), (1000011, 1000011), (1000153, 1000150)], (0, up), rfl, (by simp only [go_sem, List.take_zero, redE, List.map_nil, entsI, Int.natCast_zero] <;> rfl), Nat.zero_le _, hu, hul, fun _ => rfl⟩
 rintro ⟨s, u⟩ ⟨h1, h2, h3, h4⟩
 simp only at h1 h2 h3 h4 ⊢
 have hul1 : (u.map natC).length = N := by rw [List.length_map, h3]
 have hsin : (s : Int).toNat = s := Int.toNat_natCast s
 refine EvC.seq (EvC.rg (by simp only [go_sem] <;> rfl) (by simp) ?_)
 refine EvC.seq ?_
 refine EvC.cond (by simp only [go_sem] <;> rfl) (fun hc => ?_) (fun hc => ?_)
 rotate_left
 ·
  obtain rfl : s = red.length := by have : ¬ s < red.length := by simpa using hc
                                    omega
  refine EvC.exit ?_
  rw [List.take_length]
  refine EvC.seq (EvC.rg (by simp only [go_sem] <;> rfl) (by simp) ?_)
  refine EvC.gcE (st2 := ⟨[(4, .mp 1000150)], [], frM N u V ++ [(1000150, .map 3 (entsI 0 (redE up red)))], 1000151⟩) [4] [(1000010, 1000010), (1000011, 1000011), (1000150, 1000150)] 1000151 rfl (by simp only [go_sem, frM, List.cons_append, List.nil_append] <;> rfl) ?_
  refine EvC.ret ⟨.inl rfl, _, (by simp only [go_sem] <;> rfl), ?_⟩
  exact hR u h2 h3 h4
 have hs : s < red.length := by simpa using hc
 clear hc
 refine EvC.skip ?_
 refine EvC.seq ?_
 refine EvC.block ?_
 have hx : red[s]? = some (red[s]'hs) := List.getElem?_eq_getElem hs
 have hxN := hred _ (List.getElem_mem hs)
 have hnext : red.take (s + 1) = red.take s ++ [red[s]'hs] := List.take_succ_eq_append_getElem hs
 have hnd2 : (redE up (red.take (s + 1))).Nodup := by
  have : (redE up (red.take (s + 1))) = (redE up red).take (s + 1) := by simp [redE, List.map_take]
  rw [this]; exact hnd.sublist (List.take_sublist _ _)
 generalize red[s]'hs = r at hx hxN hnext
 have hE : redE up (red.take (s + 1)) = redE up (red.take s) ++ [((rootU up r : Nat) : Int)] := by rw [hnext, redE, List.map_append]; rfl
 have hEl : (redE up (red.take s)).length = s := by simp [redE]; omega
 have hnot : ((rootU up r : Nat) : Int) ∉ redE up (red.take s) := fun hm => by
  rw [hE] at hnd2
  exact (List.nodup_append.1 hnd2).2.2 _ hm _ (by simp) rfl
 have hset := eset_entsI _ _ 0 hnot
 rw [hEl, Nat.zero_add, ← hE] at hset
 obtain ⟨q1, q2, q3, q4⟩ := halved_ok h2 (n := r) (by omega)
 have w1 := least44_is h2 (by omega) (n := r) (by omega)
 rw [h3, h4] at w1
 obtain ⟨u1, hu1⟩ : ∃ u1, u1 = halved u r := ⟨_, rfl⟩
 rw [← hu1] at q2 q3 q4 w1
 have hul2 : (u1.map natC).length = N := by rw [List.length_map, q3, h3]
 refine EvC.seq (EvC.rg (by simp only [go_sem, hx, natC, hsin, List.length_map] <;> rfl) (by simp; try omega) ?_)
 apply EvC.tr
 ·apply Tr.run
  ·simp only [go_sem] <;> rfl
  ·simp
  apply Tr.cons
  ·exact .callW (i := 1000010) (u := 1000011) rfl rfl (by simp only [go_sem] <;> rfl) (by simp only [go_sem] <;> rfl) (by simp only [go_sem] <;> rfl) (by simp only [go_sem] <;> rfl) (by simp only [go_sem] <;> rfl) (by simp only [go_sem] <;> rfl) hul1.symm (by omega) (by rw [hul2, hul1]) (norefs_natC _) (norefs_natC _) rfl rfl (by simp only [go_sem] <;> rfl) w1
  apply Tr.done
  ·simp only [go_sem, hset] <;> rfl
  ·simp
 refine EvC.rg (by simp only [go_sem] <;> rfl) (by exact inI64_of (by omega) (by omega)) ?_
 exact ⟨[(1000010, 1000010), (1000011, 1000011), (1000150, 1000150)], (s + 1, u1), rfl, (by simp only [go_sem, Int.natCast_add, Int.natCast_one] <;> rfl), ⟨hs, q2, by simp only; omega, fun k => by simp only; rw [q4, h4]⟩, by simp only; omega⟩
end Go.Avl
namespace Go.Avl
open Go Go.Proofs.Try
set_option maxRecDepth 10000
set_option linter.unusedSimpArgs false
def rowsV (W : Nat → Nat → Int × Int) (N I : Nat) : List (List AV) := (List.range N).map fun s => [.sl false (gcells edgeC (W s) I) .unk]
theorem rowsV_len (W : Nat → Nat → Int × Int) (N I : Nat) : (rowsV W N I).length = N := by simp [rowsV]
theorem rowsV_get {W : Nat → Nat → Int × Int} {N I n : Nat} (h : n < N) : (rowsV W N I)[n]? = some [.sl false (gcells edgeC (W n) I) .unk] := by rw [rowsV, List.getElem?_map, List.getElem?_range h]; rfl
def NxtI (up red : List Nat) (W : Nat → Nat → Int × Int) (p i k : Nat) : Prop := ∃ j, j < i ∧ (W p j).1 ≠ -1 ∧ k = rootU up (W p j).1.toNat ∧ ∀ r ∈ red, rootU up r ≠ k
def MinOf (S : Nat → Prop) (o : Int) : Prop := (o = -1 ∧ ∀ k, ¬ S k) ∨ ∃ k : Nat, o = k ∧ S k ∧ ∀ k', S k' → k ≤ k'
theorem MinOf.congr {S S' : Nat → Prop} {o : Int} (h : MinOf S o) (e : ∀ k, S k ↔ S' k) : MinOf S' o := by
 rcases h with ⟨h1, h2⟩ | ⟨k, h1, h2, h3⟩
 ·exact .inl ⟨h1, fun k hk => h2 k ((e k).2 hk)⟩
 ·exact .inr ⟨k, h1, (e k).1 h2, fun k' hk => h3 k' ((e k').2 hk)⟩
theorem MinOf.add {S : Nat → Prop} {o : Int} (h : MinOf S o) (m : Nat) : MinOf (fun k => S k ∨ k = m) (if o < 0 ∨ (m : Int) < o then m else o) := by
 rcases h with ⟨h1, h2⟩ | ⟨k, h1, h2, h3⟩
 ·rw [if_pos (by omega)]
  exact .inr ⟨m, rfl, .inr rfl, fun k' hk => by
   rcases hk with hk | hk
   ·exact absurd hk (h2 k')
   ·omega⟩
 ·by_cases hm : (m : Int) < o
  ·rw [if_pos (.inr hm)]
   exact .inr ⟨m, rfl, .inr rfl, fun k' hk => by
    rcases hk with hk | hk
    ·have := h3 k' hk; omega
    ·omega⟩
  ·rw [if_neg (by omega)]
   exact .inr ⟨k, h1, .inl h2, fun k' hk => by
    rcases hk with hk | hk
    ·exact h3 k' hk
    ·omega⟩
theorem MinOf.uniq {S : Nat → Prop} {o o' : Int} (h : MinOf S o) (h' : MinOf S o') : o = o' := by
 rcases h with ⟨h1, h2⟩ | ⟨k, h1, h2, h3⟩ <;> rcases h' with ⟨k1, k2⟩ | ⟨k', k1, k2, k3⟩
 ·omega
 ·exact absurd k2 (h2 _)
 ·exact absurd h2 (k2 _)
 ·have := h3 _ k2; have := k3 _ h2; omega
set_option maxHeartbeats 8000000 in
theorem next47_body {N I : Nat} (hN : 1 ≤ N ∧ N ≤ 70000) (hI : I ≤ 16) {up : List Nat} (hu : UpOk up) (hul : up.length = N) (W : Nat → Nat → Int × Int) (hW : ∀ p i, p < N → rootU up p = p → i < I → (W p i).1 = -1 ∨ (0 ≤ (W p i).1 ∧ (W p i).1 < N)) (red : List Nat) (hred : ∀ r ∈ red, r < N) {R : AV → Mem → Nat → Prop}
  (hR : ∀ up' o, UpOk up' → up'.length = N → (∀ k, rootU up' k = rootU up k) → MinOf (fun k => ∃ r ∈ red, NxtI up red W (rootU up r) I k) o → R (.sc (.int .i64 o)) (frM N up' (rowsV W N I)) 1000151) :
  BodyIs prog 47 [.rf 1000010 0, .mp 1000150] (frM N up (rowsV W N I) ++ [(1000150, .map 3 (entsI 0 (redE up red)))]) 1000151 R := by
 refine BodyIs.of (nv := 2) (hid := [4, 5, 6, 8, 9, 10, 11, 13, 24, 25, 26, 27, 32, 43, 51]) func47 rfl (by kernel_rfl) (by simp [ntmps47]) fun h0 => ?_
 rw [ntmps47, results47]
 unfold frM
 refine EvC.seq (EvC.rg (by simp only [go_sem] <;> rfl) (by simp) ?_)
 refine EvC.seq (EvC.rg (by simp only [go_sem] <;> rfl) (by simp) ?_)
 refine EvC.seq ?_
 refine EvC.rangeMap (σ := List Nat × Int) (id := 1000150) (kt := 3) (t2 := 0) (t3 := 0) (es := entsI 0 (redE up red)) (nxn := 1000151)
  (fun r g => ⟨[(0, .rf 1000010 0), (1, .mp 1000150), (5, .sc (.int .i64 g.2)), (13, .sc (.pointer (some ⟨r, 0, none⟩)))], [], [(1000010, .cells [.tv 1000011 N 0 N .unk, .sl false (rowsV W N I) .unk]), (1000011, .arr 1 (g.1.map natC) false), (1000150, .map 3 (entsI 0 (redE up red)))], 1000151⟩)
  (fun g dn => UpOk g.1 ∧ g.1.length = N ∧ (∀ k, rootU g.1 k = rootU up k) ∧ MinOf (fun k => ∃ j ∈ dn, ∃ r, red[j]? = some r ∧ NxtI up red W (rootU up r) I k) g.2) [0, 1, 5, 13] rfl (by simp only [go_sem] <;> rfl) rfl rfl (by simp only [go_sem] <;> rfl) (by simp only [go_sem] <;> rfl) (by decide) (by simp only [go_sem] <;> rfl) (by decide) (by decide) ?_ ?_ ?_ ?_
 ·intro r
  refine ⟨[(1000010, 1000010), (1000011, 1000011), (1000150, 1000150)], (up, -1), rfl, (by simp only [go_sem] <;> rfl), hu, hul, fun _ => rfl, .inl ⟨rfl, fun k ⟨j, hj, _⟩ => by cases hj⟩⟩
 ·intro r g dn _
  exact ⟨rfl, rfl, rfl, rfl⟩
 ·rintro r ⟨u, o⟩ dn j hj ⟨h1, h2, h3, h4⟩ hjd
  simp only at h1 h2 h3 h4 ⊢
  have hjl : j < red.length := by have h := hj; rw [entsI_len] at h; simpa [redE] using h
  have hxj : red[j]? = some (red[j]'hjl) := List.getElem?_eq_getElem hjl
  have hxN := hred _ (List.getElem_mem hjl)
  have hxm := List.getElem_mem hjl
  have hes : (entsI 0 (redE up red))[j] = (.int .i64 (rootU up (red[j]'hjl) : Nat), .sc (.int .i64 (j : Nat))) := by
   have h5 := entsI_get (redE up red) 0 j
   have h7 : (redE up red)[j]? = some ((rootU up (red[j]'hjl) : Nat) : Int) := by simp [redE, hxj]
   rw [List.getElem?_eq_getElem hj, h7] at h5
   have h6 := Option.some.inj h5
   rw [show 0 + j = j by omega] at h6
   exact h6
  rw [hes]
  generalize red[j]'hjl = x at hxj hxN hxm
  have hpN : rootU up x < N := by have := rootU_le hu x; omega
  have hpp := rootU_root hu x
  obtain ⟨p, hp⟩ : ∃ p, p = rootU up x := ⟨_, rfl⟩
  rw [← hp] at hpN hpp ⊢
  have hpin : (p : Int).toNat = p := Int.toNat_natCast p
  have hvl := rowsV_len W N I
  have hvp := rowsV_get (W := W) (I := I) hpN
  apply XR.done
  ·simp only [go_sem] <;> rfl
  ·simp
  refine EvC.seq (EvC.rg (by simp only [go_sem, hvp, hvl, hpin, gcells_len] <;> rfl) (by simp; try omega) ?_)
  refine EvC.block ?_
  refine EvC.loopS (σ := Nat × List Nat × Int) (fun g => ⟨[(0, .rf 1000010 0), (1, .mp 1000150), (5, .sc (.int .i64 g.2.2)), (13, .sc (.pointer (some ⟨r, 0, none⟩))), (24, .sl false (gcells edgeC (W p) I) .unk), (25, .sc (.int .i64 I)), (26, .sc (.int .i64 g.1))], [], [(1000010, .cells [.tv 1000011 N 0 N .unk, .sl false (rowsV W N I) .unk]), (1000011, .arr 1 (g.2.1.map natC) false), (1000150, .map 3 (entsI 0 (redE up red)))], 1000151⟩) (fun g => I - g.1)
   (fun g => g.1 ≤ I ∧ UpOk g.2.1 ∧ g.2.1.length = N ∧ (∀ k, rootU g.2.1 k = rootU up k) ∧ MinOf (fun k => (∃ j ∈ dn, ∃ r, red[j]? = some r ∧ NxtI up red W (rootU up r) I k) ∨ NxtI up red W p g.1 k) g.2.2) [0, 1, 5, 13, 24, 25, 26] 1000151 ?_ ?_
  ·exact ⟨[(1000010, 1000010), (1000011, 1000011), (1000150, 1000150)], (0, u, o), rfl, (by simp only [go_sem, Int.natCast_zero] <;> rfl), Nat.zero_le _, h1, h2, h3, h4.congr fun k => ⟨.inl, fun h => h.elim id fun ⟨j, hj, _⟩ => absurd hj (Nat.not_lt_zero _)⟩⟩
  clear h1 h2 h3 h4
  rintro ⟨i, u, o⟩ ⟨hi, h1, h2, h3, h4⟩
  simp only at hi h1 h2 h3 h4 ⊢
  have hiin : (i : Int).toNat = i := Int.toNat_natCast i
  refine EvC.seq (EvC.rg (by simp only [go_sem] <;> rfl) (by simp) ?_)
  refine EvC.seq ?_
  refine EvC.cond (by simp only [go_sem] <;> rfl) (fun hc => ?_) (fun hc => ?_)
  rotate_left
  ·
   obtain rfl : i = I := by have : ¬ i < I := by simpa using hc
                            omega
   refine EvC.exit ?_
   refine ⟨[(1000010, 1000010), (1000011, 1000011), (1000150, 1000150)], (u, o), rfl, (by simp only [go_sem] <;> rfl), h1, h2, h3, h4.congr fun k => ?_⟩
   constructor
   ·rintro (⟨j', h5, h6⟩ | h5)
    ·exact ⟨j', List.mem_cons_of_mem _ h5, h6⟩
    ·exact ⟨j, List.mem_cons_self, x, hxj, by rw [← hp]; exact h5⟩
   ·rintro ⟨j', h5, r', h6, h7⟩
    rcases List.mem_cons.1 h5 with rfl | h5
    ·rw [hxj] at h6; cases h6
     exact .inr (by rw [hp]; exact h7)
    ·exact .inl ⟨j', h5, r', h6, h7⟩
  have hiI : i < I := by simpa using hc
  clear hc
  refine EvC.skip ?_
  refine EvC.seq ?_
  refine EvC.block ?_
  have hg := gcells_get edgeC (W p) hiI
  have hw := hW p i hpN hpp hiI
  have hnx : ∀ k, NxtI up red W p (i + 1) k ↔ NxtI up red W p i k ∨ ((W p i).1 ≠ -1 ∧ k = rootU up (W p i).1.toNat ∧ ∀ r ∈ red, rootU up r ≠ k) := fun k => by
   constructor
   ·rintro ⟨j', k1, k2⟩
    by_cases e : j' = i
    ·subst e; exact .inr k2
    ·exact .inl ⟨j', by omega, k2⟩
   ·rintro (⟨j', k1, k2⟩ | k2)
    ·exact ⟨j', by omega, k2⟩
    ·exact ⟨i, by omega, k2⟩
  generalize W p i = e at hg hw hnx
  obtain ⟨e1, e2⟩ := e
  simp only at hw hnx
  refine EvC.seq (EvC.rg (by simp only [go_sem, hg, hiin, edgeC, gcells_len] <;> rfl) (by simp; try omega) ?_)
  refine EvC.frzB 1000154 (by simp only [go_sem] <;> rfl) ?_
  refine EvC.seq ?_
  refine EvC.seq (EvC.rg (by simp only [go_sem] <;> rfl) (by simp) ?_)
  by_cases he : e1 = -1
  ·refine EvC.cond_true (by simp only [go_sem, decide_eq_true he] <;> rfl) ?_
   refine EvC.exit ?_
   refine EvC.rg (by simp only [go_sem] <;> rfl) (by exact inI64_of (by omega) (by omega)) ?_
   exact ⟨[(1000010, 1000010), (1000011, 1000011), (1000150, 1000150)], (i + 1, u, o), rfl, (by simp only [go_sem, Int.natCast_add, Int.natCast_one] <;> rfl), ⟨hiI, h1, h2, h3, h4.congr fun k => by
    simp only
    rw [hnx]
    constructor
    ·rintro (h | h)
     ·exact .inl h
     ·exact .inr (.inl h)
    ·rintro (h | h | h)
     ·exact .inl h
     ·exact .inr h
     ·exact absurd he h.1⟩, by simp only; omega⟩
  refine EvC.cond_false (by simp only [go_sem, decide_eq_false he] <;> rfl) ?_
  refine EvC.skip ?_
  obtain ⟨q, hq⟩ : ∃ q : Nat, e1 = (q : Int) := ⟨e1.toNat, by omega⟩
  subst hq
  have hqN : q < N := by omega
  have hul1 : (u.map natC).length = N := by rw [List.length_map, h2]
  obtain ⟨q1, q2, q3, q4⟩ := halved_ok h1 (n := q) (by omega)
  have w1 := least44_is h1 (by omega) (n := q) (by omega)
  rw [h2, h3] at w1
  obtain ⟨u1, hu1⟩ : ∃ u1, u1 = halved u q := ⟨_, rfl⟩
  rw [← hu1] at q2 q3 q4 w1
  have hul2 : (u1.map natC).length = N := by rw [List.length_map, q3, h2]
  have h3' : ∀ k, rootU u1 k = rootU up k := fun k => by rw [q4, h3]
  have h2' : u1.length = N := by rw [q3, h2]
  have hmN := rootU_le hu q
  rw [Int.toNat_natCast] at hnx
  obtain ⟨m, hm⟩ : ∃ m, m = rootU up q := ⟨_, rfl⟩
  rw [← hm] at w1 hmN hnx
  apply EvC.seq
  apply EvC.tr
  ·apply Tr.run
   ·simp only [go_sem] <;> rfl
   ·simp
   apply Tr.cons
   ·exact .callW (i := 1000010) (u := 1000011) rfl rfl (by simp only [go_sem] <;> rfl) (by simp only [go_sem] <;> rfl) (by simp only [go_sem] <;> rfl) (by simp only [go_sem] <;> rfl) (by simp only [go_sem] <;> rfl) (by simp only [go_sem] <;> rfl) hul1.symm (by omega) (by rw [hul2, hul1]) (norefs_natC _) (norefs_natC _) rfl rfl (by simp only [go_sem] <;> rfl) w1
   apply Tr.done
   ·simp only [go_sem] <;> rfl
   ·simp
  have hor : (if decide (o < 0) = true then true else decide ((m : Int) < o)) = decide (o < 0 ∨ (m : Int) < o) := by
   by_cases h : o < 0 <;> simp [h]
  apply EvC.seq
  apply EvC.trd
  ·simp only [go_sem] <;> rfl
  ·simp
  by_cases hlt : o < 0 ∨ (m : Int) < o
  rotate_left
  ·refine EvC.cond_false (by simp only [go_sem, hor, decide_eq_false hlt] <;> rfl) ?_
   refine EvC.skip ?_
   refine EvC.rg (by simp only [go_sem] <;> rfl) (by exact inI64_of (by omega) (by omega)) ?_
   refine ⟨[(1000010, 1000010), (1000011, 1000011), (1000150, 1000150)], (i + 1, u1, o), rfl, (by simp only [go_sem, Int.natCast_add, Int.natCast_one] <;> rfl), ⟨hiI, q2, h2', h3', ?_⟩, by simp only; omega⟩
   by_cases hred2 : ∀ r ∈ red, rootU up r ≠ m
   ·have := h4.add m
    rw [if_neg hlt] at this
    exact this.congr fun k => by
     simp only
     rw [hnx, or_assoc]
     exact or_congr Iff.rfl (or_congr Iff.rfl ⟨fun h => ⟨he, h, by rw [h]; exact hred2⟩, fun h => h.2.1⟩)
   ·exact h4.congr fun k => by
     simp only
     rw [hnx]
     constructor
     ·rintro (h | h)
      ·exact .inl h
      ·exact .inr (.inl h)
     ·rintro (h | h | h)
      ·exact .inl h
      ·exact .inr h
      ·exact absurd (fun r hr => by rw [← h.2.1]; exact h.2.2 r hr) hred2
  refine EvC.cond_true (by simp only [go_sem, hor, decide_eq_true hlt] <;> rfl) ?_
  have hlook := elook_entsI (m : Int) (redE up red) 0
  have hin : ((m : Int) ∈ redE up red) ↔ ∃ r ∈ red, rootU up r = m := by
   unfold redE
   rw [List.mem_map]
   exact ⟨fun ⟨r, h1, h2⟩ => ⟨r, h1, by omega⟩, fun ⟨r, h1, h2⟩ => ⟨r, h1, by omega⟩⟩
  by_cases hmem : (m : Int) ∈ redE up red
  ·rw [if_pos hmem] at hlook
   refine EvC.seq (EvC.rg (by simp only [go_sem, hlook] <;> rfl) (by simp) ?_)
   refine EvC.seq (EvC.rg (by simp only [go_sem] <;> rfl) (by simp) ?_)
   refine EvC.cond_false (by simp only [go_sem] <;> rfl) ?_
   refine EvC.skip ?_
   refine EvC.rg (by simp only [go_sem] <;> rfl) (by exact inI64_of (by omega) (by omega)) ?_
   refine ⟨[(1000010, 1000010), (1000011, 1000011), (1000150, 1000150)], (i + 1, u1, o), rfl, (by simp only [go_sem, Int.natCast_add, Int.natCast_one] <;> rfl), ⟨hiI, q2, h2', h3', ?_⟩, by simp only; omega⟩
   obtain ⟨r', hr1, hr2⟩ := hin.1 hmem
   exact h4.congr fun k => by
    simp only
    rw [hnx]
    constructor
    ·rintro (h | h)
     ·exact .inl h
     ·exact .inr (.inl h)
    ·rintro (h | h | h)
     ·exact .inl h
     ·exact .inr h
     ·exact absurd (by rw [h.2.1]; exact hr2) (h.2.2 r' hr1)
  ·rw [if_neg hmem] at hlook
   refine EvC.seq (EvC.rg (by simp only [go_sem, hlook] <;> rfl) (by simp) ?_)
   refine EvC.seq (EvC.rg (by simp only [go_sem] <;> rfl) (by simp) ?_)
   refine EvC.cond_true (by simp only [go_sem] <;> rfl) ?_
   refine EvC.rg (by simp only [go_sem] <;> rfl) (by simp) ?_
   refine EvC.rg (by simp only [go_sem] <;> rfl) (by exact inI64_of (by omega) (by omega)) ?_
   refine ⟨[(1000010, 1000010), (1000011, 1000011), (1000150, 1000150)], (i + 1, u1, (m : Int)), rfl, (by simp only [go_sem, Int.natCast_add, Int.natCast_one] <;> rfl), ⟨hiI, q2, h2', h3', ?_⟩, by simp only; omega⟩
   have hred2 : ∀ r ∈ red, rootU up r ≠ m := fun r hr h => hmem (hin.2 ⟨r, hr, h⟩)
   have := h4.add m
   rw [if_pos hlt] at this
   exact this.congr fun k => by
    simp only
    rw [hnx, or_assoc]
    exact or_congr Iff.rfl (or_congr Iff.rfl ⟨fun h => ⟨he, h, by rw [h]; exact hred2⟩, fun h => h.2.1⟩)
 ·rintro r ⟨u, o⟩ dn ⟨h1, h2, h3, h4⟩ hall
  simp only at h1 h2 h3 h4 ⊢
  refine EvC.seq (EvC.rg (by simp only [go_sem] <;> rfl) (by simp) ?_)
  refine EvC.gcE (st2 := ⟨[(4, .sc (.int .i64 o))], [], frM N u (rowsV W N I), 1000151⟩) [4] [(1000010, 1000010), (1000011, 1000011)] 1000151 rfl (by simp only [go_sem, frM] <;> rfl) ?_
  refine EvC.ret ⟨.inl rfl, _, (by simp only [go_sem] <;> rfl), ?_⟩
  refine hR u o h1 h2 h3 (h4.congr fun k => ?_)
  constructor
  ·rintro ⟨j, _, r, h5, h6⟩
   exact ⟨r, List.mem_of_getElem? h5, h6⟩
  ·rintro ⟨r, h5, h6⟩
   obtain ⟨j, hj, rfl⟩ := List.mem_iff_getElem.1 h5
   exact ⟨j, hall j (by rw [entsI_len]; simpa [redE] using hj), _, List.getElem?_eq_getElem hj, h6⟩
end Go.Avl
namespace Go.Avl
open Go Go.Proofs.Try
set_option maxRecDepth 10000
set_option linter.unusedSimpArgs false
theorem clone84_new (l : List Nat) (c : Cp) (hl : l.length < 1000000) (h0 : l.length ≠ 0) : PureNew prog 84 [.sl false (l.map natC) c] 1 (l.map natC) := by
 refine PureNew.of (nv := 1) (hid := [2, 4]) func84 rfl (by kernel_rfl) (by simp [ntmps84]) fun _ => ?_
 rw [ntmps84, results84]
 refine EvC.seq (EvC.rg (by simp only [go_sem] <;> rfl) (by simp) ?_)
 refine EvC.seq ?_
 refine EvC.seq (EvC.rg (by simp only [go_sem] <;> rfl) (by simp) ?_)
 refine EvC.cond_false (by simp only [go_sem] <;> rfl) ?_
 refine EvC.skip ?_
 have hr1 : room l.length 8 = true := by simp only [room_eq, decide_eq_true_eq]; omega
 have hr3 : ∀ a : Nat, a ∈ l → (natC a).length = 1 := fun _ _ => rfl
 refine EvC.seq (EvC.rg (by simp only [go_sem, List.length_map] <;> rfl) (by simp [hr1]; try exact hr3) ?_)
 refine EvC.ret ⟨.inl rfl, _, 5, (by simp only [go_sem, List.length_map] <;> rfl), .inl ?_, ?_, by simpa using h0, norefs_natC l⟩
 ·simp only [List.length_map]
 ·rfl
theorem isSc_natC (l : List Nat) : ((l.map natC).all fun c => c.all isScV) = true := by
 rw [List.all_eq_true]
 intro c hc
 obtain ⟨x, _, rfl⟩ := List.mem_map.1 hc
 rfl
def rowL (W : Nat → Nat → Int × Int) (s I : Nat) : List (Int × Int) := (List.range I).map (W s)
theorem rowL_cells (W : Nat → Nat → Int × Int) (s I : Nat) : (rowL W s I).map edgeC = gcells edgeC (W s) I := by rw [rowL, List.map_map]; rfl
theorem rowL_len (W : Nat → Nat → Int × Int) (s I : Nat) : (rowL W s I).length = I := by simp [rowL]
set_option maxHeartbeats 4000000 in
theorem copied70_body {N I : Nat} (hN : 1 ≤ N ∧ N ≤ 70000) (hI : 1 ≤ I ∧ I ≤ 16) {up : List Nat} (hul : up.length = N) (W : Nat → Nat → Int × Int) {R : AV → Mem → Nat → Prop}
  (hR : R (.rf 1000200 0) (foldM N I up W ++ frM N up (rowsV W N I)) 3000000) : BodyIs prog 70 [.rf 1000010 0] (frM N up (rowsV W N I)) 1000100 R := by
 have hul1 : (up.map natC).length = N := by rw [List.length_map, hul]
 have hcu := clone84_new up .unk (by omega) (by omega)
 have hvl := rowsV_len W N I
 refine BodyIs.of (nv := 1) (hid := [2, 3, 4, 5, 22, 23, 24, 25, 10, 16]) func70 rfl (by kernel_rfl) (by simp [ntmps70]) fun h0 => ?_
 rw [ntmps70, results70]
 unfold frM
 refine EvC.seq (EvC.rg (by simp only [go_sem] <;> rfl) (by simp) ?_)
 apply EvC.seq
 apply EvC.drwA mixed
 ·apply Tr.run
  ·simp only [go_sem] <;> rfl
  ·simp
  apply Tr.cons
  ·exact .callND (xs := [.sl false (up.map natC) .unk]) 2 rfl rfl (by simp only [go_sem] <;> rfl) (by simp only [go_sem] <;> rfl) (by simp only [go_sem, hul1] <;> rfl) (by simp only [go_sem, hul1] <;> rfl) (by simp only [go_sem] <;> rfl) (isSc_natC _) hcu
  apply Tr.done
  ·simp only [go_sem, hvl, List.length_replicate] <;> rfl
  ·simp [room_eq, hul]; omega
 ·kernel_rfl
 refine EvC.seq ?_
 refine EvC.seq (EvC.rg (by simp only [go_sem, hvl] <;> rfl) (by simp) ?_)
 refine EvC.block ?_
 refine EvC.loopS (σ := Nat) (fun s => ⟨[(3, .rf 1000200 0), (22, .sl false (rowsV W N I) .unk), (23, .sc (.int .i64 N)), (24, .sc (.int .i64 s))], [],
  (1000010, .cells [.tv 1000011 N 0 N .unk, .sl false (rowsV W N I) .unk]) :: (1000011, .arr 1 (up.map natC) false) :: (1000200, .cells [.tl 1000201 N false, .tv 1000202 N 0 N (.val N)]) :: (1000201, .arr 1 (up.map natC) false) :: (1000202, .arr 1 (opart I N s) false) :: otab 2 edgeC W s I, 3000000⟩) (fun s => N - s) (fun s => s ≤ N) [3, 22, 23, 24] 3000000 ?_ ?_
 ·have hz2 : (List.replicate N [AV.sl true [] .zer]).all AV.norefs = true := by simp [List.all_eq_true, AV.norefs, AV.noref]
  exact ⟨[(1000010, 1000010), (1000011, 1000011), (1000113, 1000200), (1000105, 1000201), (1000111, 1000202)], 0, rfl, (by simp only [go_sem, hul, hz2, opart_zero, otab_zero, Int.natCast_zero, if_true] <;> rfl), Nat.zero_le _⟩
 intro s hs
 have htl := opart_len (m := I) hs
 have hn1 : s ≤ 1000000 := by omega
 refine EvC.seq (EvC.rg (by simp only [go_sem] <;> rfl) (by simp) ?_)
 refine EvC.seq ?_
 refine EvC.cond (by simp only [go_sem] <;> rfl) (fun hc => ?_) (fun hc => ?_)
 rotate_left
 ·
  obtain rfl : s = N := by have : ¬ s < N := by simpa using hc
                           omega
  refine EvC.exit ?_
  rw [opart_all]
  have hlo : ∀ k, k < s → rlook (osegK [(1000200, 1000200), (1000201, 1000201), (1000202, 1000202)] s [(1000010, 1000010), (1000011, 1000011)]) (2000000 + k) = some (2000000 + k) := fun k hk => rlook_osegK_lo hk hn1 (A := [(1000200, 1000200), (1000201, 1000201), (1000202, 1000202)]) rfl
  refine EvC.seq (EvC.rg (by simp only [go_sem] <;> rfl) (by simp) ?_)
  refine EvC.unkC ?_
  have hs00 : s ≠ 0 := by omega
  refine EvC.gcE (st2 := ⟨[(2, .rf 1000200 0)], [], foldM s I up W ++ frM s up (rowsV W s I), 3000000⟩) [2] (osegK [(1000200, 1000200), (1000201, 1000201), (1000202, 1000202)] s [(1000010, 1000010), (1000011, 1000011)]) 3000000 (osegK_okB (A := [(1000200, 1000200), (1000201, 1000201), (1000202, 1000202)]) (B := [(1000010, 1000010), (1000011, 1000011)]) rfl rfl rfl rfl rfl rfl rfl hn1 (by omega)) ?_ ?_
  ·unfold foldM frM
   simp only [go_sem, hs00, hul1, hul, memMap_otab, ne_eq, not_false_eq_true, if_true, rlook_osegK_hi hn1, List.cons_append, List.nil_append, List.append_nil, renMem_oK_cons hn1, otab_ren 2 norefs_edgeC, ocell_ren hlo, ite_self] <;> rfl
  refine EvC.ret ⟨.inl rfl, _, (by simp only [go_sem] <;> rfl), ?_⟩
  exact hR
 have hsn : s < N := by simpa using hc
 clear hc
 refine EvC.skip ?_
 refine EvC.seq ?_
 refine EvC.block ?_
 have hsin : (s : Int).toNat = s := Int.toNat_natCast s
 have hcl := clone68_new (rowL W s I) .unk (by rw [rowL_len]; omega) (by rw [rowL_len]; omega)
 rw [rowL_cells] at hcl
 have hvs := rowsV_get (W := W) (I := I) hsn
 have hgl := gcells_len edgeC (W s) I
 refine EvC.seq (EvC.rg (by simp only [go_sem, hvs, hvl, hsin] <;> rfl) (by simp; try omega) ?_)
 have hti := opart_get (m := I) hsn
 apply EvC.drwA mixed
 ·apply Tr.run
  ·simp only [go_sem] <;> rfl
  ·simp
  apply Tr.cons
  ·exact .callN rfl rfl (by simp only [go_sem] <;> rfl) (by simp only [go_sem] <;> rfl) (by simp only [go_sem] <;> rfl) (by simp only [go_sem] <;> rfl) (by simp only [go_sem] <;> rfl) hcl
  apply Tr.done
  ·simp only [go_sem, htl, hsin, hti, hgl, mlook_mset] <;> rfl
  ·simp [htl]; try omega
 ·kernel_rfl
 refine EvC.rg (by simp only [go_sem] <;> rfl) (by exact inI64_of (by omega) (by omega)) ?_
 refine ⟨osegK [(1000010, 1000010), (1000011, 1000011), (1000200, 1000200), (1000201, 1000201), (1000202, 1000202)] s [(3000012, 2000000 + s)], s + 1, osegK_ok1 (A := [(1000010, 1000010), (1000011, 1000011), (1000200, 1000200), (1000201, 1000201), (1000202, 1000202)]) rfl rfl rfl rfl rfl (by decide) (by decide) (by omega) (by omega), ?_, by omega, by omega⟩
 have hlo : ∀ k, k < s → rlook (osegK [(1000010, 1000010), (1000011, 1000011), (1000200, 1000200), (1000201, 1000201), (1000202, 1000202)] s [(3000012, 2000000 + s)]) (2000000 + k) = some (2000000 + k) := fun k hk => rlook_osegK_lo hk hn1 (A := [(1000010, 1000010), (1000011, 1000011), (1000200, 1000200), (1000201, 1000201), (1000202, 1000202)]) rfl
 have hhi : rlook (osegK [(1000010, 1000010), (1000011, 1000011), (1000200, 1000200), (1000201, 1000201), (1000202, 1000202)] s [(3000012, 2000000 + s)]) 3000012 = some (2000000 + s) := rlook_osegK_hi hn1 _ _ _ rfl
 have hpr := opart_ren (m := I) hsn hhi hlo
 have hpn := opart_norefs (m := I) (k := 3000012) hsn
 simp only [go_sem, rlook_osegK_hi hn1, List.cons_append, List.nil_append, renMem_oK_cons hn1, renMem_oK_mset hn1, mlook_mset, gcells_norefs norefs_edgeC, otab_ren 2 norefs_edgeC, otab_snoc, hpr, hpn, Int.natCast_add, Int.natCast_one] <;> rfl
end Go.Avl
namespace Go.Avl
open Go Go.Proofs.Try
set_option maxRecDepth 10000
set_option linter.unusedSimpArgs false
def absorbC (t : Mach) (c red : List Nat) (n : Nat) : Option (List Nat) := red.findSome? fun r => foldC t c r n
theorem absorb_none {t : Mach} {c : List Nat} {n : Nat} {red : List Nat} (h : ∀ r ∈ red, foldC t c r n = none) : absorbC t c red n = none := by
 unfold absorbC
 rw [List.findSome?_eq_none_iff]
 exact h
theorem absorb_some {t : Mach} {c d : List Nat} {n r : Nat} : ∀ {red : List Nat} {s : Nat}, red[s]? = some r → (∀ r' ∈ red.take s, foldC t c r' n = none) → foldC t c r n = some d → absorbC t c red n = some d
 | [], s, h, _, _ => by simp at h
 | x :: red, 0, h, _, hs => by
   simp at h; subst h
   unfold absorbC
   rw [List.findSome?_cons, hs]
 | x :: red, s + 1, h, hn, hs => by
   have hx := hn x (by simp)
   unfold absorbC
   rw [List.findSome?_cons, hx]
   exact absorb_some (red := red) (s := s) (by simpa using h) (fun r' hr => hn r' (by simp [hr])) hs
theorem foldM_framed {N I : Nat} (hN : N ≤ 1000000) (up up2 : List Nat) (W : Nat → Nat → Int × Int) (V : List (List AV)) (b : Bool) : Framed (frM N up2 V) (.sc (.bool b)) (foldM N I up W) 3000000 := by
 refine ⟨osegK [(1000200, 1000200), (1000201, 1000201), (1000202, 1000202)] N [], osegK_ok (A := [(1000200, 1000200), (1000201, 1000201), (1000202, 1000202)]) rfl rfl rfl hN (by omega), foldM_ren hN up W, rfl, ?_⟩
 rw [List.all_eq_true]
 intro p hp
 rw [osegK, List.append_nil] at hp
 rcases List.mem_append.1 hp with hp | hp
 ·simp only [List.mem_cons, List.mem_nil_iff, or_false] at hp
  rcases hp with rfl | rfl | rfl <;> rfl
 ·obtain ⟨i, hi, rfl⟩ := mem_oK hp
  have : mlook (frM N up2 V) (2000000 + i) = none := by
   simp only [frM, mlook]
   rw [if_neg (by omega), if_neg (by omega)]
  simp [this]
theorem foldfr_ren {N I : Nat} (hN : N ≤ 1000000) (up up2 : List Nat) (W : Nat → Nat → Int × Int) (V : List (List AV)) : renMem (foldM N I up W ++ frM N up2 V) (osegK [(1000200, 1000200), (1000201, 1000201), (1000202, 1000202)] N [(1000010, 1000010), (1000011, 1000011)]) (osegK [(1000200, 1000200), (1000201, 1000201), (1000202, 1000202)] N [(1000010, 1000010), (1000011, 1000011)]) = foldM N I up W ++ frM N up2 V := by
 have hlo : ∀ k, k < N → rlook (osegK [(1000200, 1000200), (1000201, 1000201), (1000202, 1000202)] N [(1000010, 1000010), (1000011, 1000011)]) (2000000 + k) = some (2000000 + k) := fun k hk => rlook_osegK_lo hk hN (A := [(1000200, 1000200), (1000201, 1000201), (1000202, 1000202)]) rfl
 have hX := fun X => otab_renX 2 norefs_edgeC W N I (osegK [(1000200, 1000200), (1000201, 1000201), (1000202, 1000202)] N [(1000010, 1000010), (1000011, 1000011)]) X
 have hL := fun X => otab_lookX 2 edgeC W (m := I) hN X
 unfold foldM frM
 simp only [go_sem, rlook_osegK_hi hN, List.cons_append, List.nil_append, List.append_nil, renMem_oK_cons hN, hX, hL, ocell_ren hlo, ite_self, if_true]
def frM2 (N : Nat) (up : List Nat) (V : List (List AV)) : Mem := [(1000010, .cells [.tv 1000201 N 0 N .unk, .sl false V .unk]), (1000201, .arr 1 (up.map natC) false)]
set_option maxHeartbeats 8000000 in
theorem absorb50_body {t : Mach} (v : TV t) {I : Nat} (hI : t.ins = (I : Int)) {up : List Nat} {W : Nat → Nat → Int × Int} (hF : FI t up W fun _ _ => False) (nl : Bool) (red : List Nat) (c : Cp) (hred : ∀ r ∈ red, r < t.rows.length) (hrl : red.length < 1000000) {n : Nat} (hn : n < t.rows.length) {R : AV → Mem → Nat → Prop}
  (hRt : ∀ up' W', FI t up' W' (fun _ _ => False) → absorbC t (rootsL up t.rows.length) red n = some (rootsL up' t.rows.length) → R (.sc (.bool true)) (frM2 t.rows.length up' (rowsV W' t.rows.length I)) 1000300)
  (hRf : absorbC t (rootsL up t.rows.length) red n = none → R (.sc (.bool false)) (frM t.rows.length up (rowsV W t.rows.length I)) 1000100) :
  BodyIs prog 50 [.rf 1000010 0, .sl nl (red.map natC) c, .sc (.int .i64 n)] (frM t.rows.length up (rowsV W t.rows.length I)) 1000100 R := by
 have hrw := v.rows
 have hin := v.ins
 have hfis := hF.isF
 have hjR := fun a b => joinR_eq (up := up) (c := rootsL up t.rows.length) (fun n => (rootsL_pU hF.ok hF.len n).symm) a b
 have hul := hF.len
 obtain ⟨N, hN⟩ : ∃ N, N = t.rows.length := ⟨_, rfl⟩
 have hjo := fun a (ha : a < t.rows.length) R => join43_body v hI hF (a := a) (b := n) (R := R) ha hn
 have hs := fun a (ha : a < t.rows.length) up' W' (h : FI t up' W' fun _ _ => False) => h.fold_some v hfis ha hn
 have hno := fun a (ha : a < t.rows.length) => foldC_none v hfis ha hn
 rw [← hN] at hrw hRt hRf hred hul hjR hjo hs hno ⊢
 have hn1 : N ≤ 1000000 := by omega
 refine BodyIs.of (nv := 3) (hid := [6, 8, 9, 10, 11, 12, 13, 21, 16, 18, 19, 20]) func50 rfl (by kernel_rfl) (by simp [ntmps50]) fun h0 => ?_
 rw [ntmps50, results50]
 unfold frM
 refine EvC.seq (EvC.rg (by simp only [go_sem] <;> rfl) (by simp) ?_)
 refine EvC.seq ?_
 refine EvC.seq (EvC.rg (by simp only [go_sem, List.length_map] <;> rfl) (by simp) ?_)
 refine EvC.block ?_
 refine EvC.loopS (σ := Nat) (fun s => ⟨[(0, .rf 1000010 0), (2, .sc (.int .i64 n)), (10, .sl nl (red.map natC) c), (11, .sc (.int .i64 red.length)), (12, .sc (.int .i64 s))], [], frM N up (rowsV W N I), 1000100⟩) (fun s => red.length - s)
  (fun s => s ≤ red.length ∧ ∀ r ∈ red.take s, foldC t (rootsL up N) r n = none) [0, 2, 10, 11, 12] 1000100 ?_ ?_
 ·exact ⟨[(1000010, 1000010), (1000011, 1000011)], 0, rfl, (by simp only [go_sem, frM, Int.natCast_zero] <;> rfl), Nat.zero_le _, fun r h => by cases h⟩
 rintro s ⟨h1, h2⟩
 have hsin : (s : Int).toNat = s := Int.toNat_natCast s
 refine EvC.seq (EvC.rg (by simp only [go_sem] <;> rfl) (by simp) ?_)
 refine EvC.seq ?_
 refine EvC.cond (by simp only [go_sem] <;> rfl) (fun hc => ?_) (fun hc => ?_)
 rotate_left
 ·
  obtain rfl : s = red.length := by have : ¬ s < red.length := by simpa using hc
                                    omega
  rw [List.take_length] at h2
  refine EvC.exit ?_
  refine EvC.seq (EvC.rg (by simp only [go_sem] <;> rfl) (by simp) ?_)
  refine EvC.gcE (st2 := ⟨[(6, .sc (.bool false))], [], frM N up (rowsV W N I), 1000100⟩) [6] [(1000010, 1000010), (1000011, 1000011)] 1000100 rfl (by simp only [go_sem, frM] <;> rfl) ?_
  refine EvC.ret ⟨.inl rfl, _, (by simp only [go_sem] <;> rfl), ?_⟩
  exact hRf (absorb_none h2)
 have hsl : s < red.length := by simpa using hc
 clear hc
 refine EvC.skip ?_
 refine EvC.seq ?_
 refine EvC.block ?_
 have hx : red[s]? = some (red[s]'hsl) := List.getElem?_eq_getElem hsl
 have hxN := hred _ (List.getElem_mem hsl)
 have htk : red.take (s + 1) = red.take s ++ [red[s]'hsl] := List.take_succ_eq_append_getElem hsl
 generalize red[s]'hsl = r at hx hxN htk
 refine EvC.seq (EvC.rg (by simp only [go_sem, hx, natC, hsin, List.length_map] <;> rfl) (by simp; try omega) ?_)
 apply EvC.seq
 apply EvC.rs
 ·simp only [go_sem] <;> rfl
 ·simp
 refine XR.gcTo ⟨[(0, .rf 1000010 0), (2, .sc (.int .i64 n)), (8, .sc (.int .i64 r)), (10, .sl nl (red.map natC) c), (11, .sc (.int .i64 red.length)), (12, .sc (.int .i64 s)), (16, .rf 1000010 0)], [], frM N up (rowsV W N I), 1000100⟩ [0, 2, 8, 10, 11, 12, 16] [(1000010, 1000010), (1000011, 1000011)] rfl (by simp only [go_sem, frM] <;> rfl) ?_
 apply XR.callI rfl rfl (by simp only [go_sem] <;> rfl) (by simp only [go_sem] <;> rfl) (by simp only [go_sem] <;> rfl)
 refine copied70_body ⟨by omega, by omega⟩ ⟨by omega, by omega⟩ hul W ?_
 apply XR.done
 ·simp only [go_sem] <;> rfl
 ·simp
 apply EvC.seq
 apply EvC.rs
 ·simp only [go_sem] <;> rfl
 ·simp
 have hgk := osegK_okB (base := 1000100) (nx := 3000000) (n := N) (A := [(1000200, 1000200), (1000201, 1000201), (1000202, 1000202)]) (B := [(1000010, 1000010), (1000011, 1000011)]) rfl rfl rfl rfl rfl rfl rfl hn1 (by omega)
 have hff := foldfr_ren (I := I) hn1 up up W (rowsV W N I)
 refine XR.gcTo ⟨[(0, .rf 1000010 0), (2, .sc (.int .i64 n)), (8, .sc (.int .i64 r)), (9, .rf 1000200 0), (10, .sl nl (red.map natC) c), (11, .sc (.int .i64 red.length)), (12, .sc (.int .i64 s)), (18, .rf 1000200 0), (19, .sc (.int .i64 r)), (20, .sc (.int .i64 n))], [], foldM N I up W ++ frM N up (rowsV W N I), 3000000⟩ [0, 2, 8, 9, 10, 11, 12, 18, 19, 20] (osegK [(1000200, 1000200), (1000201, 1000201), (1000202, 1000202)] N [(1000010, 1000010), (1000011, 1000011)]) hgk ?_ ?_
 ·simp only [go_sem, hff, rlook_osegK_hi hn1, List.cons_append, List.nil_append] <;> rfl
 have hmx : ((frM N up (rowsV W N I)).all fun p => (mlook (foldM N I up W) p.1).isNone) = true := by
  have hL := fun k hk => otab_none 2 edgeC W (n := N) (m := I) hn1 k hk
  simp [frM, foldM, mlook]
  exact ⟨hL 1000010 rfl, hL 1000011 rfl⟩
 refine XR.callF (foldM N I up W) (frM N up (rowsV W N I)) rfl rfl (by simp only [go_sem] <;> rfl) (by simp only [go_sem] <;> rfl) (by simp only [go_sem] <;> rfl) (by simp only [go_sem] <;> rfl) hmx ?_
 refine hjo r hxN _ ?_ ?_
 ·intro hcl up' W' hF' hroot
  refine ⟨Nat.le_refl _, foldM_framed hn1 up' up W' _ true, ?_⟩
  apply XR.done
  ·simp only [go_sem] <;> rfl
  ·simp
  have hLX := fun X k hk => otab_lookX 2 edgeC W' (n := N) (m := I) hn1 X k hk
  have hMX := fun X o k hk => otab_msetX 2 edgeC W' (n := N) (m := I) hn1 X o k hk
  refine EvC.cond_true (by simp only [go_sem] <;> rfl) ?_
  unfold foldM frM
  rw [hjR] at hcl hroot
  have hul' : up'.length = N := by rw [hF'.len, hN]
  have hoc := ocell_len I N
  refine EvC.seq (EvC.rg (by simp only [go_sem, List.cons_append, List.nil_append, hLX, hMX] <;> rfl) (by simp [hul', hoc]) ?_)
  refine EvC.seq (EvC.rg (by simp only [go_sem] <;> rfl) (by simp) ?_)
  refine EvC.ofzAll N (fun i hi => ⟨2, gcells edgeC (W' i) I, false, by simp only [mlook, o_ne (show i < 1000000 by omega), if_false, otab_getX 2 edgeC W' _ hi, go_sem], gcells_norefs norefs_edgeC _ _⟩) ?_
  have hfz := fun X => otab_fzX 2 edgeC W' N I X
  obtain ⟨MM, hMM⟩ : ∃ MM : Mem, MM = (1000200, .cells [.tv 1000201 N 0 N .unk, .tv 1000202 N 0 N .unk]) :: (1000201, .arr 1 (up'.map natC) false) :: (1000202, .arr 1 (ocell I N) false) :: (otabF 2 edgeC W' N I ++ [(1000010, .cells [.tv 1000201 N 0 N .unk, .tv 1000202 N 0 N .unk]), (1000011, .arr 1 (up.map natC) false)]) := ⟨_, rfl⟩
  have hsn : (ocell I N).map (fun c => c.map (AV.deep (snap MM))) = rowsV W' N I := ocell_snap (e := 2) (row := fun s => gcells edgeC (W' s) I) (fun s hs => by
   rw [hMM]
   simp only [mlook, o_ne (show s < 1000000 by omega), if_false, mlook_append, otabF_look 2 edgeC W' hs, go_sem]) (fun s _ => gcells_len _ _ _)
  rw [hMM] at hsn
  have hvl := rowsV_len W' N I
  have hvn : (rowsV W' N I).all AV.norefs = true := by simp [rowsV, List.all_eq_true, AV.norefs, AV.noref]
  have hLF : ∀ X k, notO k = true → mlook (otabF 2 edgeC W' N I ++ X) k = mlook X k := fun X k hk => by
   rw [mlook_append, show mlook (otabF 2 edgeC W' N I) k = none from by
    rw [otabF, mlook_msegA]
    split
    ·rw [List.getElem?_eq_none]
     unfold notO at hk; simp at hk; simp; omega
    ·rfl]
  refine EvC.snapA 1000202 (by simp only [go_sem, ofzAll_cons hn1, hfz, hsn] <;> rfl) ?_
  have hmF : ∀ f, memMap f (otabF 2 edgeC W' N I) = otabF 2 edgeC W' N I := fun f => by rw [otabF, memMap_msegA, List.map_map]; rfl
  refine EvC.frzD 1000202 (by simp only [go_sem, hvn, hvl, memMap_append, hmF] <;> rfl) ?_
  refine EvC.gcE (st2 := ⟨[(6, .sc (.bool true))], [], frM2 N up' (rowsV W' N I), 1000300⟩) [6] [(1000010, 1000010), (1000201, 1000201)] 1000300 rfl (by simp only [go_sem, hLF, frM2] <;> rfl) ?_
  refine EvC.ret ⟨.inl rfl, _, (by simp only [go_sem] <;> rfl), ?_⟩
  exact hRt up' W' hF' (absorb_some hx h2 (hs r hxN up' W' hF' hroot hcl))
 ·intro hcl up' W' hup'
  refine ⟨Nat.le_refl _, foldM_framed hn1 up' up W' _ false, ?_⟩
  apply XR.done
  ·simp only [go_sem] <;> rfl
  ·simp
  have hLX := fun X k hk => otab_lookX 2 edgeC W' (n := N) (m := I) hn1 X k hk
  refine EvC.cond_false (by simp only [go_sem] <;> rfl) ?_
  refine EvC.skip ?_
  rw [hjR] at hcl
  refine EvC.rg (by simp only [go_sem] <;> rfl) (by exact inI64_of (by omega) (by omega)) ?_
  refine ⟨[(1000010, 1000010), (1000011, 1000011)], s + 1, rfl, (by simp only [go_sem, foldM, frM, List.cons_append, List.nil_append, hLX, Int.natCast_add, Int.natCast_one] <;> rfl), ⟨hsl, fun r' hr' => ?_⟩, by omega⟩
  rw [htk] at hr'
  rcases List.mem_append.1 hr' with hr' | hr'
  ·exact h2 r' hr'
  ·rw [List.mem_singleton.1 hr']
   exact hno r hxN hcl
end Go.Avl
namespace Go.Avl
open Go Go.Proofs.Try
set_option maxRecDepth 10000
set_option linter.unusedSimpArgs false
def edgeM (up red : List Nat) (W : Nat → Nat → Int × Int) (s i : Nat) : Int × Int :=
 if (W (rootU up ((red[s]?).getD 0)) i).1 ≠ -1 then (((redE up red).idxOf ((rootU up (W (rootU up ((red[s]?).getD 0)) i).1.toNat : Nat) : Int) : Nat), (W (rootU up ((red[s]?).getD 0)) i).2) else (-1, -1)
def rowM (up red : List Nat) (W : Nat → Nat → Int × Int) (I s : Nat) : List (Int × Int) := (List.range I).map (edgeM up red W s)
def rowFu (es : List (Int × Int)) : List AV := [.sl false (es.map edgeC) .full]
def machP (up red : List Nat) (W : Nat → Nat → Int × Int) (I s : Nat) : List (List AV) := ((List.range s).map fun k => rowFu (rowM up red W I k)) ++ List.replicate (red.length - s) [.sl true [] .zer]
def rowP (up red : List Nat) (W : Nat → Nat → Int × Int) (I s i : Nat) : List (Int × Int) := ((List.range i).map (edgeM up red W s)) ++ List.replicate (I - i) (0, 0)
theorem set_ren {es : List (List AV)} {s k j n : Nat} {cp : Cp} {K : List (Nat × Nat)} (hn : es.all AV.norefs = true) (hk : rlook K k = some j) : (es.set s [.tv k n 0 n cp]).map (fun c => c.map (AV.ren K)) = es.set s [.tv j n 0 n cp] := by
 have hid : es.map (fun c => c.map (AV.ren K)) = es := by
  conv => rhs; rw [← List.map_id es]
  refine List.map_congr_left fun c hc => ?_
  rw [List.all_eq_true] at hn
  have h1 := hn c hc
  have : ∀ (l : List AV), AV.norefs l = true → l.map (AV.ren K) = l := by
   intro l
   induction l with
   | nil => intro _; rfl
   | cons y ys ih =>
     intro h
     simp only [AV.norefs, Bool.and_eq_true] at h
     rw [List.map_cons, ih h.2, AV.ren, if_pos h.1]
  exact this c h1
 rw [List.map_set, hid]
 congr 1
 simp [AV.ren, AV.noref, AV.deep, renLeaf, hk]
theorem set_norefs {es : List (List AV)} {s k n : Nat} {cp : Cp} (h : s < es.length) : (es.set s [.tv k n 0 n cp]).all AV.norefs = false := by
 rw [List.all_eq_false]
 refine ⟨[.tv k n 0 n cp], ?_, by simp [AV.norefs, AV.noref]⟩
 rw [List.mem_iff_getElem]
 exact ⟨s, by rw [List.length_set]; exact h, by simp⟩
theorem machP_next {up red : List Nat} {W : Nat → Nat → Int × Int} {I s : Nat} (hs : s < red.length) : (machP up red W I s).set s (rowFu (rowM up red W I s)) = machP up red W I (s + 1) := by
 obtain ⟨d, hd⟩ : ∃ d, red.length - s = d + 1 := ⟨red.length - s - 1, by omega⟩
 have hd' : red.length - (s + 1) = d := by omega
 rw [machP, machP, hd, hd', List.replicate_succ, List.set_append_right _ _ (by simp), List.length_map, List.length_range, Nat.sub_self, List.set_cons_zero, List.range_succ, List.map_append, List.append_assoc]
 rfl
theorem rowP_all (up red : List Nat) (W : Nat → Nat → Int × Int) (I s : Nat) : rowP up red W I s I = rowM up red W I s := by simp [rowP, rowM]
theorem rowP_get {up red : List Nat} {W : Nat → Nat → Int × Int} {I s i : Nat} (hi : i < I) : (rowP up red W I s i)[i]? = some (0, 0) := by
 rw [rowP, List.getElem?_append_right (by simp), List.length_map, List.length_range, Nat.sub_self, List.getElem?_replicate, if_pos (by omega)]
theorem rowP_next {up red : List Nat} {W : Nat → Nat → Int × Int} {I s i : Nat} (hi : i < I) : (rowP up red W I s i).set i (edgeM up red W s i) = rowP up red W I s (i + 1) := by
 obtain ⟨d, hd⟩ : ∃ d, I - i = d + 1 := ⟨I - i - 1, by omega⟩
 have hd' : I - (i + 1) = d := by omega
 rw [rowP, rowP, hd, hd', List.replicate_succ, List.set_append_right _ _ (by simp), List.length_map, List.length_range, Nat.sub_self, List.set_cons_zero, List.range_succ, List.map_append, List.append_assoc]
 rfl
set_option maxHeartbeats 8000000 in
theorem machine49_body {t : Mach} (v : TV t) {I : Nat} (hI : t.ins = (I : Int)) {N : Nat} (hNr : N = t.rows.length) {up : List Nat} (hu : UpOk up) (hul : up.length = N) (W : Nat → Nat → Int × Int) (hW : ∀ p i, p < N → rootU up p = p → i < I → (W p i).1 = -1 ∨ (0 ≤ (W p i).1 ∧ (W p i).1 < N)) (nl : Bool) (red : List Nat) (c : Cp) (hred : ∀ r ∈ red, r < N) (hrl : 1 ≤ red.length ∧ red.length < 1000000) (hnd : (redE up red).Nodup)
  (hall : ∀ r ∈ red, ∀ i, i < I → (W (rootU up r) i).1 ≠ -1 → ((rootU up (W (rootU up r) i).1.toNat : Nat) : Int) ∈ redE up red) {R : AV → Mem → Nat → Prop}
  (hR : ∀ up', UpOk up' → up'.length = N → (∀ k, rootU up' k = rootU up k) → R (.ag [.sc (.int .i64 t.ins), .sc (.int .i64 t.outs), .sl false ((List.range red.length).map fun s => rowFu (rowM up red W I s)) .full]) (frM N up' (rowsV W N I) ++ [(1000101, .cells [.sc (.int .i64 t.ins), .sc (.int .i64 t.outs), .sl false ((List.range red.length).map fun s => rowFu (rowM up red W I s)) .full])]) 1000102) :
  BodyIs prog 49 [.rf 1000010 0, .ag t.cells, .sl nl (red.map natC) c] (frM N up (rowsV W N I)) 1000100 R := by
 have hrw := v.rows
 have hin := v.ins
 refine BodyIs.of (nv := 3) (hid := [4, 6, 7, 8, 9, 10, 11, 12, 24, 25, 26, 27, 46, 47, 48, 49, 63, 13, 14, 22, 36]) func49 rfl (by kernel_rfl) (by simp [ntmps49]) fun h0 => ?_
 rw [ntmps49, results49]
 unfold frM
 refine EvC.seq (EvC.rg (by simp only [go_sem, Mach.cells] <;> rfl) (by simp) ?_)
 refine EvC.frzB 1000100 (by simp only [go_sem] <;> rfl) ?_
 apply EvC.seq
 apply EvC.rs
 ·simp only [go_sem] <;> rfl
 ·simp
 refine XR.gcTo ⟨[(0, .rf 1000010 0), (2, .sl nl (red.map natC) c), (4, .ia t.cells), (6, .rf 1000101 0), (13, .rf 1000010 0), (14, .sl nl (red.map natC) c)], [], frM N up (rowsV W N I) ++ [(1000101, .cells [.sc (.int .i64 0), .sc (.int .i64 0), .sl true [] .zer])], 1000150⟩ [0, 2, 4, 6, 13, 14] [(1000010, 1000010), (1000011, 1000011), (1000101, 1000101)] rfl (by simp only [go_sem, frM, Mach.cells, List.cons_append, List.nil_append] <;> rfl) ?_
 refine XR.callF (frM N up (rowsV W N I)) [(1000101, .cells [.sc (.int .i64 0), .sc (.int .i64 0), .sl true [] .zer])] rfl rfl (by simp only [go_sem] <;> rfl) (by simp only [go_sem] <;> rfl) (by simp only [go_sem] <;> rfl) (by simp only [go_sem] <;> rfl) rfl ?_
 refine states48_body ⟨by omega, by omega⟩ hu hul _ nl red c hred hrl.2 hnd ?_
 intro up1 hu1 hul1 hroot1
 refine ⟨by simp, ⟨[(1000010, 1000010), (1000011, 1000011), (1000150, 1000150)], rfl, by simp only [go_sem, frM, List.cons_append, List.nil_append] <;> rfl, rfl, rfl⟩, ?_⟩
 apply XR.done
 ·simp only [go_sem] <;> rfl
 ·simp
 unfold frM
 have hrlz : (List.replicate red.length [AV.sl true [] .zer]).length = red.length := List.length_replicate
 apply EvC.seq
 apply EvC.drwA mixed
 ·apply Tr.done
  ·simp only [go_sem, Mach.cells, List.length_map, List.cons_append, List.nil_append, hrlz] <;> rfl
  ·simp [room_eq]; omega
 ·kernel_rfl
 refine EvC.seq ?_
 refine EvC.seq (EvC.rg (by simp only [go_sem, List.length_map] <;> rfl) (by simp) ?_)
 refine EvC.block ?_
 refine EvC.loopS (σ := Nat × List Nat) (fun g => ⟨[(0, .rf 1000010 0), (4, .ia t.cells), (6, .rf 1000101 0), (7, .mp 1000150), (8, .rf 1000103 0), (24, .sl nl (red.map natC) c), (25, .sc (.int .i64 red.length)), (26, .sc (.int .i64 g.1))], [],
   [(1000010, .cells [.tv 1000011 N 0 N .unk, .sl false (rowsV W N I) .unk]), (1000011, .arr 1 (g.2.map natC) false), (1000150, .map 3 (entsI 0 (redE up red))), (1000101, .cells [.sc (.int .i64 0), .sc (.int .i64 0), .sl true [] .zer]), (1000102, .arr 1 (machP up red W I g.1) false), (1000103, .cells [.sc (.int .i64 t.ins), .sc (.int .i64 t.outs), .tv 1000102 red.length 0 red.length (.val red.length)])], 1000151⟩) (fun g => red.length - g.1)
  (fun g => g.1 ≤ red.length ∧ UpOk g.2 ∧ g.2.length = N ∧ ∀ k, rootU g.2 k = rootU up k) [0, 4, 6, 7, 8, 24, 25, 26] 1000151 ?_ ?_
 ·have hz2 : (List.replicate red.length [AV.sl true [] .zer]).all AV.norefs = true := by simp [List.all_eq_true, AV.norefs, AV.noref]
  exact ⟨[(1000010, 1000010), (1000011, 1000011), (1000150, 1000150), (1000101, 1000101), (1000158, 1000102), (1000160, 1000103)], (0, up1), rfl, (by simp only [go_sem, hz2, if_true, Mach.cells, machP, List.range_zero, List.map_nil, List.nil_append, Nat.sub_zero, Int.natCast_zero] <;> rfl), Nat.zero_le _, hu1, hul1, hroot1⟩
 clear hroot1 hul1 hu1
 rintro ⟨s, u⟩ ⟨h1, h2, h3, h4⟩
 simp only at h1 h2 h3 h4 ⊢
 have hsin : (s : Int).toNat = s := Int.toNat_natCast s
 have hpl : (machP up red W I s).length = red.length := by simp [machP]; omega
 have hpn : ∀ s, (machP up red W I s).all AV.norefs = true := fun s => by simp [machP, rowFu, List.all_eq_true, AV.norefs, AV.noref]
 refine EvC.seq (EvC.rg (by simp only [go_sem] <;> rfl) (by simp) ?_)
 refine EvC.seq ?_
 refine EvC.cond (by simp only [go_sem] <;> rfl) (fun hc => ?_) (fun hc => ?_)
 rotate_left
 ·
  obtain rfl : s = red.length := by have : ¬ s < red.length := by simpa using hc
                                    omega
  refine EvC.exit ?_
  refine EvC.frzD 1000102 (by simp only [go_sem, hpn, hpl] <;> rfl) ?_
  have hpe : machP up red W I red.length = (List.range red.length).map fun s => rowFu (rowM up red W I s) := by simp [machP]
  rw [hpe]
  refine EvC.seq (EvC.rg (by simp only [go_sem] <;> rfl) (by simp) ?_)
  refine EvC.gcE (st2 := ⟨[(6, .rf 1000101 0)], [], frM N u (rowsV W N I) ++ [(1000101, .cells [.sc (.int .i64 t.ins), .sc (.int .i64 t.outs), .sl false ((List.range red.length).map fun s => rowFu (rowM up red W I s)) .full])], 1000102⟩) [6] [(1000010, 1000010), (1000011, 1000011), (1000101, 1000101)] 1000102 rfl (by simp only [go_sem, frM, List.cons_append, List.nil_append] <;> rfl) ?_
  refine EvC.ret ⟨.inl rfl, _, (by simp only [go_sem, frM, List.cons_append, List.nil_append] <;> rfl), ?_⟩
  exact hR u h2 h3 h4
 have hs : s < red.length := by simpa using hc
 clear hc
 refine EvC.skip ?_
 refine EvC.seq ?_
 refine EvC.block ?_
 have hx : red[s]? = some (red[s]'hs) := List.getElem?_eq_getElem hs
 have hxN := hred _ (List.getElem_mem hs)
 have hxm := List.getElem_mem hs
 have hem : ∀ i, edgeM up red W s i = if (W (rootU up (red[s]'hs)) i).1 ≠ -1 then ((((redE up red).idxOf ((rootU up (W (rootU up (red[s]'hs)) i).1.toNat : Nat) : Int) : Nat) : Int), (W (rootU up (red[s]'hs)) i).2) else (-1, -1) := fun i => by
  unfold edgeM
  rw [hx]; rfl
 generalize red[s]'hs = x at hx hxN hxm hem
 have hIn : t.ins.toNat = I := by omega
 have hpi : (machP up red W I s)[s]? = some [.sl true [] .zer] := by
  rw [machP, List.getElem?_append_right (by simp), List.length_map, List.length_range, Nat.sub_self, List.getElem?_replicate, if_pos (by omega)]
 have hrI : (List.replicate I [AV.sc (.int .i64 0), .sc (.int .i64 0)]).length = I := List.length_replicate
 refine EvC.seq (EvC.rg (by simp only [go_sem, hx, natC, hsin, List.length_map] <;> rfl) (by simp; try omega) ?_)
 apply EvC.seq
 apply EvC.drwA mixed
 ·apply Tr.done
  ·simp only [go_sem, Mach.cells, hIn, hI, Int.toNat_natCast, hpl, hpi, hsin, hrI] <;> rfl
  ·simp [room_eq, hpl]; omega
 ·kernel_rfl
 obtain ⟨q1, q2, q3, q4⟩ := halved_ok h2 (n := x) (by omega)
 have w1 := least44_is h2 (by omega) (n := x) (by omega)
 have hpN : rootU up x < N := by have := rootU_le hu x; omega
 have hall' := hall x hxm
 rw [h3, h4] at w1
 have hul1 : (u.map natC).length = N := by rw [List.length_map, h3]
 obtain ⟨u1, hu1⟩ : ∃ u1, u1 = halved u x := ⟨_, rfl⟩
 rw [← hu1] at q2 q3 q4 w1
 have hul2 : (u1.map natC).length = N := by rw [List.length_map, q3, h3]
 have hu1r : ∀ k, rootU u1 k = rootU up k := fun k => by rw [q4, h4]
 have hu1l : u1.length = N := by rw [q3, h3]
 clear h2 h3 h4 q1 q4 hu1
 have hpp := rootU_root hu x
 generalize rootU up x = p at hpN hem hall' w1 hpp
 have hpin : (p : Int).toNat = p := Int.toNat_natCast p
 have hvl := rowsV_len W N I
 have hvp := rowsV_get (W := W) (I := I) hpN
 apply EvC.seq
 apply EvC.drwA mixed
 ·apply Tr.run
  ·simp only [go_sem] <;> rfl
  ·simp
  apply Tr.cons
  ·exact .callW (i := 1000010) (u := 1000011) rfl rfl (by simp only [go_sem] <;> rfl) (by simp only [go_sem] <;> rfl) (by simp only [go_sem] <;> rfl) (by simp only [go_sem] <;> rfl) (by simp only [go_sem] <;> rfl) (by simp only [go_sem] <;> rfl) hul1.symm (by omega) (by rw [hul2, hul1]) (norefs_natC _) (norefs_natC _) rfl rfl (by simp only [go_sem] <;> rfl) w1
  apply Tr.done
  ·simp only [go_sem, hvp, hvl, hpin, gcells_len] <;> rfl
  ·simp; try omega
 ·kernel_rfl
 refine EvC.block ?_
 refine EvC.loopS (σ := Nat × List Nat) (fun g => ⟨[(0, .rf 1000010 0), (4, .ia t.cells), (6, .rf 1000101 0), (7, .mp 1000150), (8, .rf 1000103 0), (9, .sc (.int .i64 s)), (24, .sl nl (red.map natC) c), (25, .sc (.int .i64 red.length)), (26, .sc (.int .i64 s)), (46, .sl false (gcells edgeC (W p) I) .unk), (47, .sc (.int .i64 I)), (48, .sc (.int .i64 g.1))], [],
   [(1000010, .cells [.tv 1000011 N 0 N .unk, .sl false (rowsV W N I) .unk]), (1000011, .arr 1 (g.2.map natC) false), (1000150, .map 3 (entsI 0 (redE up red))), (1000101, .cells [.sc (.int .i64 0), .sc (.int .i64 0), .sl true [] .zer]), (1000102, .arr 1 ((machP up red W I s).set s [.tv 1000104 I 0 I (.val I)]) false), (1000103, .cells [.sc (.int .i64 t.ins), .sc (.int .i64 t.outs), .tv 1000102 red.length 0 red.length (.val red.length)]), (1000104, .arr 2 ((rowP up red W I s g.1).map edgeC) false)], 1000151⟩) (fun g => I - g.1)
  (fun g => g.1 ≤ I ∧ UpOk g.2 ∧ g.2.length = N ∧ ∀ k, rootU g.2 k = rootU up k) [0, 4, 6, 7, 8, 9, 24, 25, 26, 46, 47, 48] 1000151 ?_ ?_
 ·have hsr := set_ren (n := I) (cp := .val I) (hpn s) (s := s) (k := 1000162) (j := 1000104) (K := [(1000010, 1000010), (1000011, 1000011), (1000150, 1000150), (1000101, 1000101), (1000102, 1000102), (1000103, 1000103), (1000162, 1000104)]) rfl
  have hsnr := set_norefs (k := 1000162) (n := I) (cp := .val I) (show s < (machP up red W I s).length by omega)
  have hz3 : (List.replicate I [AV.sc (.int .i64 0), .sc (.int .i64 0)]).all AV.norefs = true := by simp [List.all_eq_true, AV.norefs, AV.noref]
  have hr0 : (rowP up red W I s 0).map edgeC = List.replicate I [AV.sc (.int .i64 0), .sc (.int .i64 0)] := by simp [rowP, edgeC]
  exact ⟨[(1000010, 1000010), (1000011, 1000011), (1000150, 1000150), (1000101, 1000101), (1000102, 1000102), (1000103, 1000103), (1000162, 1000104)], (0, u1), rfl, (by simp only [go_sem, hsr, hsnr, hz3, hr0, hI, if_true, Mach.cells, Int.natCast_zero] <;> rfl), Nat.zero_le _, q2, hu1l, hu1r⟩
 clear q2 hu1l hu1r w1 hul1 hul2
 rintro ⟨i, u⟩ ⟨g1, g2, g3, g4⟩
 simp only at g1 g2 g3 g4 ⊢
 have hiin : (i : Int).toNat = i := Int.toNat_natCast i
 have hul1 : (u.map natC).length = N := by rw [List.length_map, g3]
 have hrl1 : (rowP up red W I s i).length = I := by simp [rowP]; omega
 have hsl1 : ((machP up red W I s).set s [.tv 1000104 I 0 I (.val I)]).length = red.length := by rw [List.length_set, hpl]
 have hsg : ((machP up red W I s).set s [AV.tv 1000104 I 0 I (.val I)])[s]? = some [.tv 1000104 I 0 I (.val I)] := by rw [List.getElem?_set_self (by omega)]
 refine EvC.seq (EvC.rg (by simp only [go_sem] <;> rfl) (by simp) ?_)
 refine EvC.seq ?_
 refine EvC.cond (by simp only [go_sem] <;> rfl) (fun hc => ?_) (fun hc => ?_)
 rotate_left
 ·
  obtain rfl : i = I := by have : ¬ i < I := by simpa using hc
                           omega
  refine EvC.exit ?_
  refine EvC.frz 1000104 (by simp only [go_sem, hrl1, List.length_map] <;> rfl) ?_
  refine EvC.snapE 1000102 s (by simp only [go_sem, hsg, hrl1, List.length_map] <;> rfl) ?_
  have hmn := machP_next (up := up) (W := W) (I := i) hs
  rw [rowFu, ← rowP_all] at hmn
  refine EvC.rg (by simp only [go_sem] <;> rfl) (by exact inI64_of (by omega) (by omega)) ?_
  exact ⟨[(1000010, 1000010), (1000011, 1000011), (1000150, 1000150), (1000101, 1000101), (1000102, 1000102), (1000103, 1000103)], (s + 1, u), rfl, (by simp only [go_sem, List.set_set, hmn, hpn (s + 1), if_true, Int.natCast_add, Int.natCast_one] <;> rfl), ⟨hs, g2, g3, g4⟩, by simp only; omega⟩
 have hiI : i < I := by simpa using hc
 clear hc
 refine EvC.skip ?_
 refine EvC.seq ?_
 refine EvC.block ?_
 have hg := gcells_get edgeC (W p) hiI
 have hw := hW p i hpN hpp hiI
 have hem1 := hem i
 have hal1 := hall' i hiI
 generalize W p i = e at hg hw hem1 hal1
 obtain ⟨e1, e2⟩ := e
 simp only at hw hem1 hal1
 refine EvC.seq (EvC.rg (by simp only [go_sem, hg, hiin, edgeC, gcells_len] <;> rfl) (by simp; try omega) ?_)
 refine EvC.frzB 1000155 (by simp only [go_sem] <;> rfl) ?_
 have hrg : ((rowP up red W I s i).map edgeC)[i]? = some [.sc (.int .i64 0), .sc (.int .i64 0)] := by rw [List.getElem?_map, rowP_get hiI]; rfl
 have hrml : ((rowP up red W I s i).map edgeC).length = I := by rw [List.length_map, hrl1]
 have hnx := rowP_next (up := up) (red := red) (W := W) (s := s) hiI
 rw [hem1] at hnx
 have hmap : ∀ e : Int × Int, ((rowP up red W I s i).set i e).map edgeC = ((rowP up red W I s i).map edgeC).set i [.sc (.int .i64 e.1), .sc (.int .i64 e.2)] := fun e => by rw [List.map_set]; rfl
 have hsr := set_ren (n := I) (cp := .val I) (hpn s) (s := s) (k := 1000104) (j := 1000104) (K := [(1000010, 1000010), (1000011, 1000011), (1000150, 1000150), (1000101, 1000101), (1000102, 1000102), (1000103, 1000103), (1000104, 1000104)]) rfl
 have hsnr := set_norefs (k := 1000104) (n := I) (cp := .val I) (show s < (machP up red W I s).length by omega)
 refine EvC.seq (EvC.rg (by simp only [go_sem, hsl1, hsg, hsin, hiin, hrg, hrml] <;> rfl) (by simp [hsl1, hrml]; try omega) ?_)
 have hL1g : (((rowP up red W I s i).map edgeC).set i [.sc (.int .i64 (-1)), .sc (.int .i64 (-1))])[i]? = some [.sc (.int .i64 (-1)), .sc (.int .i64 (-1))] := List.getElem?_set_self (by omega)
 have hL1l : (((rowP up red W I s i).map edgeC).set i [.sc (.int .i64 (-1)), .sc (.int .i64 (-1))]).length = I := by rw [List.length_set, hrml]
 refine EvC.seq (EvC.rg (by simp only [go_sem] <;> rfl) (by simp) ?_)
 by_cases he : e1 = -1
 ·rw [if_neg (by rw [he]; simp)] at hnx
  have hm2 := hmap (-1, -1)
  rw [hnx] at hm2
  simp only at hm2
  refine EvC.cond_false (by simp only [go_sem, decide_eq_true he] <;> rfl) ?_
  refine EvC.skip ?_
  refine EvC.rg (by simp only [go_sem] <;> rfl) (by exact inI64_of (by omega) (by omega)) ?_
  exact ⟨[(1000010, 1000010), (1000011, 1000011), (1000150, 1000150), (1000101, 1000101), (1000102, 1000102), (1000103, 1000103), (1000104, 1000104)], (i + 1, u), rfl, (by simp only [go_sem, hsr, hsnr, ← hm2, Int.natCast_add, Int.natCast_one] <;> rfl), ⟨hiI, g2, g3, g4⟩, by simp only; omega⟩
 rw [if_pos he] at hnx
 refine EvC.cond_true (by simp only [go_sem, decide_eq_false he] <;> rfl) ?_
 obtain ⟨q, hq⟩ : ∃ q : Nat, e1 = (q : Int) := ⟨e1.toNat, by omega⟩
 subst hq
 rw [Int.toNat_natCast] at hnx hal1
 have hqN : q < N := by omega
 obtain ⟨q1, q2, q3, q4⟩ := halved_ok g2 (n := q) (by omega)
 have w2 := least44_is g2 (by omega) (n := q) (by omega)
 rw [g3, g4] at w2
 obtain ⟨u2, hu2⟩ : ∃ u2, u2 = halved u q := ⟨_, rfl⟩
 rw [← hu2] at q2 q3 q4 w2
 have hul2 : (u2.map natC).length = N := by rw [List.length_map, q3, g3]
 have hlook := elook_entsI ((rootU up q : Nat) : Int) (redE up red) 0
 rw [if_pos (hal1 he), Nat.zero_add] at hlook
 have hm2 := hmap ((((redE up red).idxOf ((rootU up q : Nat) : Int) : Nat) : Int), e2)
 rw [hnx] at hm2
 simp only at hm2
 generalize rootU up q = m at w2 hlook hm2
 generalize (redE up red).idxOf (m : Int) = k at hlook hm2
 have hL3 : (((rowP up red W I s i).map edgeC).set i [.sc (.int .i64 (-1)), .sc (.int .i64 (-1))]).set i [.sc (.int .i64 (k : Int)), .sc (.int .i64 e2)] = (rowP up red W I s (i + 1)).map edgeC := by rw [List.set_set, ← hm2]
 generalize ((rowP up red W I s i).map edgeC).set i [.sc (.int .i64 (-1)), .sc (.int .i64 (-1))] = L1 at hL1g hL1l hL3 ⊢
 apply EvC.drwA mixed
 ·apply Tr.run
  ·simp only [go_sem, hsl1, hsg, hsin] <;> rfl
  ·simp [hsl1]; try omega
  apply Tr.cons
  ·exact .callW (i := 1000010) (u := 1000011) rfl rfl (by simp only [go_sem] <;> rfl) (by simp only [go_sem] <;> rfl) (by simp only [go_sem] <;> rfl) (by simp only [go_sem] <;> rfl) (by simp only [go_sem] <;> rfl) (by simp only [go_sem] <;> rfl) hul1.symm (by omega) (by rw [hul2, hul1]) (norefs_natC _) (norefs_natC _) rfl rfl (by simp only [go_sem] <;> rfl) w2
  apply Tr.done
  ·simp only [go_sem, hlook, hiin, hL1g, hL1l, hL3] <;> rfl
  ·simp [hL1l]; try omega
 ·kernel_rfl
 refine EvC.rg (by simp only [go_sem] <;> rfl) (by exact inI64_of (by omega) (by omega)) ?_
 exact ⟨[(1000010, 1000010), (1000011, 1000011), (1000150, 1000150), (1000101, 1000101), (1000102, 1000102), (1000103, 1000103), (1000104, 1000104)], (i + 1, u2), rfl, (by simp only [go_sem, hsr, hsnr, Int.natCast_add, Int.natCast_one] <;> rfl), ⟨hiI, q2, by simp only; omega, fun k => by simp only; rw [q4, g4]⟩, by simp only; omega⟩
end Go.Avl
namespace Go.Avl
open Go Go.Proofs.Try
set_option maxRecDepth 10000
set_option linter.unusedSimpArgs false
theorem rowT_has {outs : Int} : ∀ {r : List (Int × Int)} {nx nx' : Int}, 1 ≤ nx → rowT outs r nx = some nx' → ∀ m : Int, nx ≤ m → m < nx' → ∃ (j : Nat) (e : Int × Int), r[j]? = some e ∧ e.1 = m
 | [], nx, nx', _, h, m, h1, h2 => by simp [rowT] at h; omega
 | y :: r, nx, nx', h0, h, m, h1, h2 => by
   rw [rowT] at h
   split at h
   ·obtain ⟨j, e, k1, k2⟩ := rowT_has h0 h m h1 h2
    exact ⟨j + 1, e, by simpa using k1, k2⟩
   ·split at h
    ·rename_i hy
     by_cases hm : m = nx
     ·exact ⟨0, y, rfl, by rw [hm]; exact hy.1⟩
     ·obtain ⟨j, e, k1, k2⟩ := rowT_has (by omega) h m (by omega) h2
      exact ⟨j + 1, e, by simpa using k1, k2⟩
    ·cases h
theorem rowT_uniq {outs : Int} : ∀ {r : List (Int × Int)} {nx nx' : Int}, 1 ≤ nx → rowT outs r nx = some nx' → ∀ (j j' : Nat) (e e' : Int × Int), r[j]? = some e → r[j']? = some e' → e.1 ≠ -1 → e.1 = e'.1 → j = j'
 | [], _, _, _, _, j, _, _, _, h, _, _, _ => by simp at h
 | y :: r, nx, nx', h0, h, j, j', e, e', h1, h2, h3, h4 => by
   have hge := fun e (he : e ∈ r) (nx0 : Int) (hr : rowT outs r nx0 = some nx') => rowT_edges hr e he
   rw [rowT] at h
   split at h
   ·rename_i hy
    cases j with
    | zero => simp at h1; subst h1; exact absurd hy.1 h3
    | succ j => cases j' with
      | zero => simp at h2; subst h2; rw [h4] at h3; exact absurd hy.1 h3
      | succ j' => rw [rowT_uniq h0 h j j' e e' (by simpa using h1) (by simpa using h2) h3 h4]
   ·split at h
    ·rename_i hy
     cases j with
     | zero => cases j' with
       | zero => rfl
       | succ j' =>
         simp at h1 h2; subst h1
         have := hge e' (List.mem_of_getElem? h2) _ h
         omega
     | succ j => cases j' with
       | zero =>
         simp at h1 h2; subst h2
         have := hge e (List.mem_of_getElem? h1) _ h
         omega
       | succ j' => rw [rowT_uniq (by omega) h j j' e e' (by simpa using h1) (by simpa using h2) h3 h4]
    ·cases h
theorem rowsT_has {ins outs : Int} : ∀ {rs : List Row} {n nx nx' : Int}, 1 ≤ nx → rowsT ins outs rs n nx = some nx' → ∀ m : Int, nx ≤ m → m < nx' → ∃ (i j : Nat) (r : Row) (e : Int × Int), rs[i]? = some r ∧ r.2[j]? = some e ∧ e.1 = m ∧ n + i < m
 | [], n, nx, nx', _, h, m, h1, h2 => by simp [rowsT] at h; omega
 | y :: rs, n, nx, nx', h0, h, m, h1, h2 => by
   rw [rowsT] at h
   split at h
   ·cases h
   ·rename_i hc
    split at h
    ·cases h
    ·rename_i k hk
     have hge := rowT_ge hk
     by_cases hm : m < k
     ·obtain ⟨j, e, k1, k2⟩ := rowT_has h0 hk m h1 hm
      exact ⟨0, j, y, e, rfl, k1, k2, by simp; omega⟩
     ·obtain ⟨i, j, r, e, k1, k2, k3, k4⟩ := rowsT_has (by omega) h m (by omega) h2
      exact ⟨i + 1, j, r, e, by simpa using k1, k2, k3, by simp only [Int.natCast_add, Int.natCast_one]; omega⟩
theorem rowsT_uniq {ins outs : Int} : ∀ {rs : List Row} {n nx nx' : Int}, 1 ≤ nx → rowsT ins outs rs n nx = some nx' → ∀ (i i' j j' : Nat) (r r' : Row) (e e' : Int × Int), rs[i]? = some r → rs[i']? = some r' → r.2[j]? = some e → r'.2[j']? = some e' → e.1 ≠ -1 → e.1 = e'.1 → i = i' ∧ j = j'
 | [], _, _, _, _, _, i, _, _, _, _, _, _, _, h, _, _, _, _, _ => by simp at h
 | y :: rs, n, nx, nx', h0, h, i, i', j, j', r, r', e, e', h1, h2, h3, h4, h5, h6 => by
   rw [rowsT] at h
   split at h
   ·cases h
   ·split at h
    ·cases h
    ·rename_i k hk
     have hge := rowT_ge hk
     have hlow : ∀ (i : Nat) (r : Row) (j : Nat) (e : Int × Int), rs[i]? = some r → r.2[j]? = some e → e.1 ≠ -1 → k ≤ e.1 := fun i r j e k1 k2 k3 => by
      have hrow := fun (rs : List Row) => rs
      have : ∀ {rs : List Row} {n nx nx' : Int}, rowsT ins outs rs n nx = some nx' → ∀ (i : Nat) (r : Row), rs[i]? = some r → ∀ e ∈ r.2, e.1 = -1 ∨ nx ≤ e.1 := by
       intro rs
       induction rs with
       | nil => intro _ _ _ _ i r h; simp at h
       | cons y rs ih =>
         intro n nx nx' h i r hr e he
         rw [rowsT] at h
         split at h
         ·cases h
         ·split at h
          ·cases h
          ·rename_i k hk
           have hge := rowT_ge hk
           cases i with
           | zero =>
             simp at hr; subst hr
             rcases rowT_edges hk e he with h1 | h1
             ·exact .inl h1.1
             ·exact .inr h1.1
           | succ i =>
             rcases ih h i r (by simpa using hr) e he with h1 | h1
             ·exact .inl h1
             ·exact .inr (by omega)
      rcases this h i r k1 e (List.mem_of_getElem? k2) with h7 | h7
      ·exact absurd h7 k3
      ·exact h7
     have hhi : ∀ (j : Nat) (e : Int × Int), y.2[j]? = some e → e.1 ≠ -1 → e.1 < k := fun j e k1 k2 => by
      rcases rowT_edges hk e (List.mem_of_getElem? k1) with h7 | h7
      ·exact absurd h7.1 k2
      ·exact h7.2.1
     cases i with
     | zero => cases i' with
       | zero =>
         simp at h1 h2; subst h1 h2
         exact ⟨rfl, rowT_uniq h0 hk j j' e e' h3 h4 h5 h6⟩
       | succ i' =>
         simp at h1 h2; subst h1
         have := hhi j e h3 h5
         have := hlow i' r' j' e' h2 h4 (by rw [← h6]; exact h5)
         omega
     | succ i => cases i' with
       | zero =>
         simp at h1 h2; subst h2
         have := hhi j' e' h4 (by rw [← h6]; exact h5)
         have := hlow i r j e h1 h3 h5
         omega
       | succ i' =>
         obtain ⟨k1, k2⟩ := rowsT_uniq (by omega) h i i' j j' r r' e e' (by simpa using h1) (by simpa using h2) h3 h4 h5 h6
         exact ⟨by rw [k1], k2⟩
structure TP (t : Mach) : Prop where
 has : ∀ m : Nat, 1 ≤ m → m < t.rows.length → ∃ p i : Nat, p < m ∧ (i : Int) < t.ins ∧ (eT t p i).1 = m
 uniq : ∀ p i p' i' : Nat, (eT t p i).1 ≠ -1 → (eT t p i).1 = (eT t p' i').1 → p = p' ∧ i = i'
theorem eT_get {t : Mach} {p i : Nat} (h : (eT t p i).1 ≠ -1) : ∃ r, t.rows[p]? = some r ∧ r.2[i]? = some (eT t p i) := by
 have hp := eT_in h
 refine ⟨t.rows[p], List.getElem?_eq_getElem hp, ?_⟩
 unfold eT at h ⊢
 rw [List.getElem?_eq_getElem hp] at h ⊢
 simp only [Option.map_some, Option.getD_some] at h ⊢
 cases he : t.rows[p].2[i]? with
 | none => rw [he] at h; exact absurd rfl h
 | some e => rfl
theorem TP.of {t : Mach} (h : checkT t = 0) : TP t := by
 have v := TV.of h
 unfold checkT at h
 split at h
 ·cases h
 ·split at h
  ·cases h
  ·split at h
   ·rename_i nx hnx
    split at h
    ·rename_i h3
     subst h3
     refine ⟨fun m h1 h2 => ?_, fun p i p' i' h1 h2 => ?_⟩
     ·obtain ⟨i, j, r, e, k1, k2, k3, k4⟩ := rowsT_has (by omega) hnx (m : Int) (by omega) (by omega)
      have hjl := (v.row i r k1).1
      have hj := (List.getElem?_eq_some_iff.1 k2).1
      refine ⟨i, j, by omega, by omega, ?_⟩
      rw [eT, k1]
      simp only [Option.map_some, Option.getD_some, k2]
      exact k3
     ·obtain ⟨r, k1, k2⟩ := eT_get h1
      obtain ⟨r', k3, k4⟩ := eT_get (t := t) (p := p') (i := i') (by rw [← h2]; exact h1)
      exact rowsT_uniq (by omega) hnx p p' i i' r r' _ _ k1 k3 k2 k4 h1 h2
    ·cases h
   ·cases h
end Go.Avl
namespace Go.Avl
open Go Go.Proofs.Try
set_option maxRecDepth 10000
set_option linter.unusedSimpArgs false
def isRed (c red : List Nat) (k : Nat) : Bool := red.any fun r => decide (pU c r = k)
theorem isRed_iff {c red : List Nat} {k : Nat} : isRed c red k = true ↔ ∃ r ∈ red, pU c r = k := by
 unfold isRed
 rw [List.any_eq_true]
 simp
def candC (t : Mach) (c red : List Nat) : List Nat :=
 (List.range t.rows.length).flatMap fun n => if isRed c red (pU c n) = true then (List.range t.ins.toNat).filterMap fun i => if (eT t n i).1 ≠ -1 ∧ isRed c red (pU c (eT t n i).1.toNat) = false then some (eT t n i).1.toNat else none else []
theorem mem_candC {t : Mach} {c red : List Nat} {m : Nat} : m ∈ candC t c red ↔ ∃ n i : Nat, n < t.rows.length ∧ i < t.ins.toNat ∧ isRed c red (pU c n) = true ∧ (eT t n i).1 ≠ -1 ∧ isRed c red (pU c m) = false ∧ m = (eT t n i).1.toNat := by
 unfold candC
 rw [List.mem_flatMap]
 constructor
 ·rintro ⟨n, hn, h⟩
  split at h
  ·rename_i hr
   obtain ⟨i, hi, h⟩ := List.mem_filterMap.1 h
   split at h
   ·rename_i hc
    have := Option.some.inj h
    subst this
    exact ⟨n, i, List.mem_range.1 hn, List.mem_range.1 hi, hr, hc.1, hc.2, rfl⟩
   ·cases h
  ·cases h
 ·rintro ⟨n, i, h1, h2, h3, h4, h5, rfl⟩
  exact ⟨n, List.mem_range.2 h1, by rw [if_pos h3]; exact List.mem_filterMap.2 ⟨i, List.mem_range.2 h2, if_pos ⟨h4, h5⟩⟩⟩
def minL : List Nat → Int
 | [] => -1
 | k :: l => if minL l < 0 ∨ (k : Int) < minL l then k else minL l
theorem minL_min : ∀ l : List Nat, MinOf (· ∈ l) (minL l)
 | [] => .inl ⟨rfl, fun k h => by cases h⟩
 | k :: l => ((minL_min l).add k).congr fun j => by rw [List.mem_cons]; exact Or.comm
def nextC (t : Mach) (c red : List Nat) : Int := minL (candC t c red)
theorem nextC_min (t : Mach) (c red : List Nat) : MinOf (· ∈ candC t c red) (nextC t c red) := minL_min _
theorem cand_le {t : Mach} (p : TP t) {c red : List Nat} (h0 : isRed c red (pU c 0) = true) : ∀ k, k < t.rows.length → isRed c red (pU c k) = false → ∃ m ∈ candC t c red, m ≤ k := by
 intro k
 induction k using Nat.strongRecOn with
 | _ k ih =>
   intro hk hn
   have hk0 : k ≠ 0 := fun e => by rw [e, h0] at hn; cases hn
   obtain ⟨q, i, h1, h2, h3⟩ := p.has k (by omega) hk
   cases hq : isRed c red (pU c q) with
   | true =>
     exact ⟨k, mem_candC.2 ⟨q, i, by omega, by omega, hq, by rw [h3]; omega, hn, by rw [h3]; omega⟩, Nat.le_refl _⟩
   | false =>
     obtain ⟨m, k1, k2⟩ := ih q h1 (by omega) hq
     exact ⟨m, k1, by omega⟩
theorem next_eq {t : Mach} (v : TV t) (tp : TP t) {I : Nat} (hI : t.ins = (I : Int)) {up : List Nat} {W : Nat → Nat → Int × Int} (hF : FI t up W fun _ _ => False) {red : List Nat} (hred : ∀ r ∈ red, r < t.rows.length) (h0 : 0 ∈ red) {o : Int}
  (ho : MinOf (fun k => ∃ r ∈ red, NxtI up red W (rootU up r) I k) o) : o = nextC t (rootsL up t.rows.length) red := by
 have hpU := rootsL_pU hF.ok hF.len
 obtain ⟨c, hc⟩ : ∃ c, c = rootsL up t.rows.length := ⟨_, rfl⟩
 rw [← hc] at hpU ⊢
 have hrn : ∀ k, isRed c red k = false ↔ ∀ r ∈ red, rootU up r ≠ k := fun k => by
  constructor
  ·intro h r hr e
   rw [show isRed c red k = true from isRed_iff.2 ⟨r, hr, by rw [hpU]; exact e⟩] at h
   cases h
  ·intro h
   cases hk : isRed c red k with
   | false => rfl
   | true =>
     obtain ⟨r, h1, h2⟩ := isRed_iff.1 hk
     exact absurd (by rw [← hpU]; exact h2) (h r h1)
 have hin := v.ins
 have hA : ∀ k, (∃ r ∈ red, NxtI up red W (rootU up r) I k) → ∃ m ∈ candC t c red, pU c m = k := fun k ⟨r, hr, j, h1, h2, h3, h4⟩ => by
  have hrN := hred r hr
  have hpN : rootU up r < t.rows.length := by have := rootU_le hF.ok r; omega
  obtain ⟨m, k1, k2, k3⟩ := hF.row (rootU up r) j hpN (rootU_root hF.ok r) (by omega) (knownE_to h2)
  rw [k3] at h2 h3
  refine ⟨(eT t m j).1.toNat, mem_candC.2 ⟨m, j, k1, by omega, isRed_iff.2 ⟨r, hr, by rw [hpU, hpU, k2]⟩, h2, ?_, rfl⟩, by rw [hpU, h3]⟩
  rw [hrn, hpU, ← h3]
  exact h4
 have hB : ∀ m, m ∈ candC t c red → ∃ r ∈ red, NxtI up red W (rootU up r) I (pU c m) := fun m hm => by
  obtain ⟨n, i, h1, h2, h3, h4, h5, rfl⟩ := mem_candC.1 hm
  obtain ⟨r, hr, h6⟩ := isRed_iff.1 h3
  rw [hpU, hpU] at h6
  obtain ⟨k1, k2, k3⟩ := hF.node n i h1 (by omega) (knownE_to h4)
  have hw : (W (rootU up n) i).1 ≠ -1 := fun e => h4 (((clashE_iff (knownE_to h4) k1).1 k2).1.2 e)
  have hto := k3 (bothE_iff.2 ⟨h4, hw⟩)
  have e : (fun a b => rootU up a = rootU up b ∨ False) = fun a b => rootU up a = rootU up b := by funext a b; simp
  rw [e] at hto
  refine ⟨r, hr, i, by omega, by rw [h6]; exact hw, by rw [hpU, h6]; exact hto.fn, ?_⟩
  rw [← hrn]
  exact h5
 have hC := cand_le tp (c := c) (red := red) (isRed_iff.2 ⟨0, h0, rfl⟩)
 have hS : MinOf (· ∈ candC t c red) o := by
  rcases ho with ⟨h1, h2⟩ | ⟨k, h1, h2, h3⟩
  ·exact .inl ⟨h1, fun m hm => h2 _ (hB m hm)⟩
  ·obtain ⟨m, hm, hmk⟩ := hA k h2
   have hkn : isRed c red (pU c k) = false := by
    obtain ⟨_, _, _, _, _, _, h5, _⟩ := mem_candC.1 hm
    rw [← hmk, hpU, hpU, rootU_root hF.ok, ← hpU]; exact h5
   have hkN : k < t.rows.length := by
    obtain ⟨n, i, q1, q2, q3, q4, q5, q6⟩ := mem_candC.1 hm
    have := v.to q1 (by omega : (i : Int) < t.ins) q4
    have := rootU_le hF.ok m
    rw [← hpU] at this
    omega
   obtain ⟨m', hm', hle⟩ := hC k hkN hkn
   have h4 := h3 _ (hB m' hm')
   have h5 := rootU_le hF.ok m'
   rw [← hpU] at h5
   have e : m' = k := by omega
   subst e
   exact .inr ⟨m', h1, hm', fun m2 hm2 => by
    have h6 := h3 _ (hB m2 hm2)
    have h7 := rootU_le hF.ok m2
    rw [← hpU] at h7
    omega⟩
 exact hS.uniq (nextC_min t c red)
def placeC (c l : List Nat) (k : Nat) : Int := if (l.map (pU c)).idxOf k < l.length then ((l.map (pU c)).idxOf k : Int) else -1
def edgeR (t : Mach) (c red : List Nat) (s i : Nat) : Int × Int :=
 match (List.range t.rows.length).reverse.find? fun n => decide (pU c n = pU c ((red[s]?).getD 0)) && decide ((eT t n i).1 ≠ -1) with
 | some n => (placeC c red (pU c (eT t n i).1.toNat), (eT t n i).2)
 | none => (-1, -1)
def machC (t : Mach) (c red : List Nat) : List (List (Int × Int)) := (List.range red.length).map fun s => (List.range t.ins.toNat).map (edgeR t c red s)
theorem idxOf_cast (l : List Nat) (k : Nat) : (l.map fun (x : Nat) => (x : Int)).idxOf (k : Int) = l.idxOf k := by
 induction l with
 | nil => rfl
 | cons x l ih =>
   rw [List.map_cons, List.idxOf_cons, List.idxOf_cons, ih]
   by_cases h : x = k
   ·subst h; simp
   ·have h1 : (x == k) = false := by simpa using h
    have h2 : ((x : Int) == (k : Int)) = false := beq_eq_false_iff_ne.2 fun e => h (Int.ofNat.inj e)
    rw [h1, h2]
theorem next_none {t : Mach} (v : TV t) {I : Nat} (hI : t.ins = (I : Int)) {up : List Nat} {W : Nat → Nat → Int × Int} (hF : FI t up W fun _ _ => False) {red : List Nat} (hred : ∀ r ∈ red, r < t.rows.length) (hn : nextC t (rootsL up t.rows.length) red < 0) :
  ∀ r ∈ red, ∀ i, i < I → (W (rootU up r) i).1 ≠ -1 → ∃ r' ∈ red, rootU up r' = rootU up (W (rootU up r) i).1.toNat := by
 intro r hr i hi hw
 have hpU := rootsL_pU hF.ok hF.len
 have hrN := hred r hr
 have hpN : rootU up r < t.rows.length := by have := rootU_le hF.ok r; omega
 obtain ⟨m, k1, k2, k3⟩ := hF.row (rootU up r) i hpN (rootU_root hF.ok r) (by omega) (knownE_to hw)
 rw [k3] at hw ⊢
 cases hx : isRed (rootsL up t.rows.length) red (pU (rootsL up t.rows.length) (eT t m i).1.toNat) with
 | true =>
   obtain ⟨r', h1, h2⟩ := isRed_iff.1 hx
   rw [hpU, hpU] at h2
   exact ⟨r', h1, h2⟩
 | false =>
   exfalso
   have hm := nextC_min t (rootsL up t.rows.length) red
   have hc : (eT t m i).1.toNat ∈ candC t (rootsL up t.rows.length) red := mem_candC.2 ⟨m, i, k1, by omega, isRed_iff.2 ⟨r, hr, by rw [hpU, hpU, k2]⟩, hw, hx, rfl⟩
   rcases hm with ⟨_, h2⟩ | ⟨k, h1, _⟩
   ·exact h2 _ hc
   ·omega
theorem machine_eq {t : Mach} (v : TV t) {I : Nat} (hI : t.ins = (I : Int)) {up : List Nat} {W : Nat → Nat → Int × Int} (hF : FI t up W fun _ _ => False) {red : List Nat} (hred : ∀ r ∈ red, r < t.rows.length) (hn : nextC t (rootsL up t.rows.length) red < 0) :
  ((List.range red.length).map fun s => rowM up red W I s) = machC t (rootsL up t.rows.length) red := by
 have hpU := rootsL_pU hF.ok hF.len
 have hall := next_none v hI hF hred hn
 have hin := v.ins
 have hIn : t.ins.toNat = I := by omega
 unfold machC rowM
 refine List.map_congr_left fun s hs => ?_
 have hs := List.mem_range.1 hs
 rw [hIn]
 refine List.map_congr_left fun i hi => ?_
 have hi := List.mem_range.1 hi
 have hx : red[s]? = some red[s] := List.getElem?_eq_getElem hs
 have hxm := List.getElem_mem hs
 have hxN := hred _ hxm
 unfold edgeM edgeR
 rw [hx]
 simp only [Option.getD_some]
 generalize red[s] = x at hxm hxN
 have hpN : rootU up x < t.rows.length := by have := rootU_le hF.ok x; omega
 cases hfd : (List.range t.rows.length).reverse.find? fun n => decide (pU (rootsL up t.rows.length) n = pU (rootsL up t.rows.length) x) && decide ((eT t n i).1 ≠ -1) with
 | none =>
   rw [List.find?_eq_none] at hfd
   rw [if_neg]
   intro hw
   obtain ⟨m, k1, k2, k3⟩ := hF.row (rootU up x) i hpN (rootU_root hF.ok x) (by omega) (knownE_to hw)
   refine hfd m (List.mem_reverse.2 (List.mem_range.2 k1)) ?_
   rw [hpU, hpU, k2, ← k3]
   simp [hw]
 | some n =>
   have h1 := List.find?_some hfd
   have h2 := List.mem_range.1 (List.mem_reverse.1 (List.mem_of_find?_eq_some hfd))
   simp only [Bool.and_eq_true, decide_eq_true_eq, hpU] at h1
   obtain ⟨h3, h4⟩ := h1
   obtain ⟨k1, k2, k3⟩ := hF.node n i h2 (by omega) (knownE_to h4)
   rw [h3] at k1 k2 k3
   have hcl := (clashE_iff (knownE_to h4) k1).1 k2
   have hw : (W (rootU up x) i).1 ≠ -1 := fun e => h4 (hcl.1.2 e)
   have hto := k3 (bothE_iff.2 ⟨h4, hw⟩)
   have e : (fun a b => rootU up a = rootU up b ∨ False) = fun a b => rootU up a = rootU up b := by funext a b; simp
   rw [e] at hto
   have hto := hto.fn
   obtain ⟨r', hr1, hr2⟩ := hall x hxm i hi hw
   rw [if_pos hw]
   simp only
   rw [hcl.2 h4, hpU, hto]
   have hE : redE up red = (red.map (pU (rootsL up t.rows.length))).map fun (x : Nat) => (x : Int) := by
    rw [List.map_map, redE]
    exact List.map_congr_left fun r _ => by simp [hpU]
   rw [hE, idxOf_cast, placeC, if_pos]
   have hmem : rootU up (W (rootU up x) i).1.toNat ∈ red.map (pU (rootsL up t.rows.length)) := List.mem_map.2 ⟨r', hr1, by rw [hpU]; exact hr2⟩
   have := List.idxOf_lt_length_of_mem hmem
   rwa [List.length_map] at this
end Go.Avl
namespace Go.Avl
open Go Go.Proofs.Try
set_option maxRecDepth 10000
set_option linter.unusedSimpArgs false
def mergeC (t : Mach) : Nat → List Nat → List Nat → Option (List (List (Int × Int)))
 | 0, _, _ => none
 | f + 1, c, red => if 64 < red.length then none else if nextC t c red < 0 then some (machC t c red) else
   match absorbC t c red (nextC t c red).toNat with
   | some d => mergeC t f d red
   | none => mergeC t f c (red ++ [(nextC t c red).toNat])
def mergeT (t : Mach) : Option (List (List (Int × Int))) := mergeC t (t.rows.length * t.rows.length + 67) (List.range t.rows.length) [0]
theorem absorb_inv {t : Mach} {c d red : List Nat} {n : Nat} (h : absorbC t c red n = some d) : ∃ r ∈ red, foldC t c r n = some d := by
 unfold absorbC at h
 obtain ⟨r, h1, h2⟩ := List.exists_of_findSome?_eq_some h
 exact ⟨r, h1, h2⟩
theorem absorb_inv_none {t : Mach} {c red : List Nat} {n : Nat} (h : absorbC t c red n = none) : ∀ r ∈ red, foldC t c r n = none := by
 unfold absorbC at h
 rwa [List.findSome?_eq_none_iff] at h
theorem next_node {t : Mach} (v : TV t) {c red : List Nat} (h : ¬ nextC t c red < 0) : (nextC t c red).toNat < t.rows.length ∧ isRed c red (pU c (nextC t c red).toNat) = false ∧ (((nextC t c red).toNat : Nat) : Int) = nextC t c red := by
 have hin := v.ins
 rcases nextC_min t c red with ⟨h1, _⟩ | ⟨k, h1, h2, _⟩
 ·omega
 ·rw [h1, Int.toNat_natCast]
  obtain ⟨n, i, q1, q2, q3, q4, q5, q6⟩ := mem_candC.1 h2
  have := v.to q1 (by omega : (i : Int) < t.ins) q4
  exact ⟨by omega, q5, rfl⟩
structure RedOk (t : Mach) (c red : List Nat) : Prop where
 zero : 0 ∈ red
 lt : ∀ r ∈ red, r < t.rows.length
 sep : ∀ (i j a b : Nat), i < j → red[i]? = some a → red[j]? = some b → ∀ c', IsF t c' → (∀ x y, pU c x = pU c y → pU c' x = pU c' y) → pU c' a ≠ pU c' b
theorem RedOk.nodup {t : Mach} {c red : List Nat} (h : RedOk t c red) (hc : IsF t c) : (red.map (pU c)).Nodup := by
 refine List.pairwise_iff_getElem.2 fun i j hi hj hij => ?_
 rw [List.getElem_map, List.getElem_map]
 have hi' : i < red.length := by simpa using hi
 have hj' : j < red.length := by simpa using hj
 exact h.sep i j _ _ hij (List.getElem?_eq_getElem hi') (List.getElem?_eq_getElem hj') c hc fun _ _ h => h
theorem fold_mono {t : Mach} (v : TV t) {c d : List Nat} (hc : IsF t c) {a b : Nat} (ha : a < t.rows.length) (hb : b < t.rows.length) (h : foldC t c a b = some d) : IsF t d ∧ (∀ x y, pU c x = pU c y → pU d x = pU d y) ∧ pU d a = pU d b := by
 have hs := foldC_spec v hc ha hb
 rw [h] at hs
 exact ⟨hs.1, fun x y hxy => (hs.2.1 x y).2 (.base (.inl hxy)), (hs.2.1 a b).2 (.base (.inr ⟨rfl, rfl⟩))⟩
theorem fold_sep {t : Mach} (v : TV t) {c c' : List Nat} (hc : IsF t c) {a b : Nat} (ha : a < t.rows.length) (hb : b < t.rows.length) (h : foldC t c a b = none) (hc' : IsF t c') (hm : ∀ x y, pU c x = pU c y → pU c' x = pU c' y) : pU c' a ≠ pU c' b := fun he => by
 have hs := foldC_spec v hc ha hb
 rw [h] at hs
 obtain ⟨x, y, i, h1, h2, h3⟩ := hs
 have hxy := hc'.cong (R := pairR c a b) (fun x y hxy => by
  rcases hxy with hxy | ⟨rfl, rfl⟩
  ·exact hm x y hxy
  ·exact he) h1
 have := (hc'.clo x y i hxy h2).1
 rw [h3] at this; cases this
theorem RedOk.absorb {t : Mach} (v : TV t) {c d red : List Nat} (h : RedOk t c red) (hc : IsF t c) {n : Nat} (hn : n < t.rows.length) (hd : absorbC t c red n = some d) : RedOk t d red ∧ IsF t d := by
 obtain ⟨r, hr, hf⟩ := absorb_inv hd
 obtain ⟨h1, h2, _⟩ := fold_mono v hc (h.lt r hr) hn hf
 exact ⟨⟨h.zero, h.lt, fun i j a b hij hi hj c' hc' hm => h.sep i j a b hij hi hj c' hc' fun x y hxy => hm x y (h2 x y hxy)⟩, h1⟩
theorem RedOk.push {t : Mach} (v : TV t) {c red : List Nat} (h : RedOk t c red) (hc : IsF t c) {n : Nat} (hn : n < t.rows.length) (hd : absorbC t c red n = none) : RedOk t c (red ++ [n]) := by
 have hno := absorb_inv_none hd
 refine ⟨List.mem_append_left _ h.zero, fun r hr => ?_, fun i j a b hij hi hj c' hc' hm => ?_⟩
 ·rcases List.mem_append.1 hr with hr | hr
  ·exact h.lt r hr
  ·rw [List.mem_singleton.1 hr]; exact hn
 ·by_cases hjl : j < red.length
  ·rw [List.getElem?_append_left hjl] at hj
   rw [List.getElem?_append_left (by omega)] at hi
   exact h.sep i j a b hij hi hj c' hc' hm
  ·have hjn : j = red.length := by
     have := (List.getElem?_eq_some_iff.1 hj).1
     simp at this; omega
   subst hjn
   rw [List.getElem?_append_right (Nat.le_refl _), Nat.sub_self] at hj
   cases hj
   rw [List.getElem?_append_left hij] at hi
   have ham := List.mem_of_getElem? hi
   exact fold_sep v hc (h.lt a ham) hn (hno a ham) hc' hm
theorem absorb_sum {t : Mach} (v : TV t) {c d red : List Nat} (h : RedOk t c red) (hc : IsF t c) {n : Nat} (hn : n < t.rows.length) (hnr : isRed c red (pU c n) = false) (hd : absorbC t c red n = some d) : sumR d t.rows.length < sumR c t.rows.length := by
 obtain ⟨r, hr, hf⟩ := absorb_inv hd
 have hrN := h.lt r hr
 obtain ⟨h1, h2, h3⟩ := fold_mono v hc hrN hn hf
 have hle : ∀ k, pU d k ≤ pU c k := fun k => by
  have := h2 k (pU c k) (hc.can.fix k).symm
  rw [this]
  exact h1.can.le _
 have hne : pU c r ≠ pU c n := fun e => by
  rw [show isRed c red (pU c n) = true from isRed_iff.2 ⟨r, hr, e⟩] at hnr
  cases hnr
 have hrr := hc.can.le r
 have hnn := hc.can.le n
 have e1 := h2 r (pU c r) (hc.can.fix r).symm
 have e2 := h2 n (pU c n) (hc.can.fix n).symm
 refine (sumR_less (q := max (pU c r) (pU c n)) (fun k => by rw [h1.can.root, hc.can.root]; exact hle k) ?_ t.rows.length).2 (by omega)
 rw [h1.can.root, hc.can.root]
 by_cases hlt : pU c r < pU c n
 ·rw [Nat.max_eq_right (by omega), hc.can.fix, ← e2, ← h3, e1]
  have := h1.can.le (pU c r); omega
 ·rw [Nat.max_eq_left (by omega), hc.can.fix, ← e1, h3, e2]
  have := h1.can.le (pU c n); omega
theorem redOk_zero {t : Mach} (v : TV t) : RedOk t (List.range t.rows.length) [0] := by
 have := v.rows
 refine ⟨by simp, fun r hr => by rw [List.mem_singleton.1 hr]; omega, fun i j a b hij hi hj => ?_⟩
 have := (List.getElem?_eq_some_iff.1 hj).1
 simp at this; omega
theorem redE_nodup {t : Mach} {up red : List Nat} (hu : UpOk up) (hl : up.length = t.rows.length) (h : (red.map (pU (rootsL up t.rows.length))).Nodup) : (redE up red).Nodup := by
 have hE : redE up red = (red.map (pU (rootsL up t.rows.length))).map fun (x : Nat) => (x : Int) := by
  rw [List.map_map, redE]
  exact List.map_congr_left fun r _ => by simp [rootsL_pU hu hl]
 rw [hE]
 refine List.pairwise_iff_getElem.2 fun i j hi hj hij he => ?_
 have h1 := List.pairwise_iff_getElem.1 h i j (by simpa using hi) (by simpa using hj) hij
 simp only [List.getElem_map] at he h1
 omega
end Go.Avl
