/-
  Lemmas.
  From a law's row to its contract: arguments opened, and read again behind the call.
  How the arguments of the orders' laws read, and the table of the kinds of faults.
-/
import Derived.ProofKit
import Derived.OpenShut
import Derived.Test.YtmmcendgdcmlkaaDoorCards
import Derived.Test.YtmmcendgdcmlkaaDoorTie
import Derived.LaidMore
import Derived.Stop.Joined
import Derived.Test.YtmmcendgdcmlkaaDoorPart7
set_option linter.unusedSimpArgs false
set_option linter.unusedVariables false
set_option linter.unnecessarySimpa false
set_option linter.deprecated false
namespace Go.Avl
open Go Go.Proofs.Tryd
set_option maxRecDepth 10000
theorem cond_iff {m : Mach} (hv : WV m) {k s t b : Nat} (hs : s < m.rows.length) (ht : t < m.rows.length) (hb : b < m.ins.toNat) :
  condM (iterM m k) (ex (rowN m s) b) (ex (rowN m t) b) = false ↔ ∀ v, WOk m.ins.toNat v → v.length ≤ k → runR m s ((b : Int) :: v) = runR m t ((b : Int) :: v) := by
 by_cases ho : (ex (rowN m s) b).2 = (ex (rowN m t) b).2
 ·rcases ex_bothW hv hs ht hb ho with ⟨e1, e2⟩ | ⟨p, q, e1, e2, hp, hq⟩
  ·refine ⟨fun _ v _ _ => ?_, fun _ => by simp [condM, ho, e1]⟩
   rw [run_cons, run_cons, ho, e1, e2]
  ·have h1 : condM (iterM m k) (ex (rowN m s) b) (ex (rowN m t) b) = iterM m k p q := by simp [condM, ho, e1, e2]
   rw [h1, iterM_is hv k p q hp hq]
   refine ⟨fun h v h2 h3 => ?_, fun h v h2 h3 => ?_⟩
   ·rw [run_cons, run_cons, ho, e1, e2, h v h2 h3]
   ·have := h v h2 h3
    rw [run_cons, run_cons, e1, e2] at this
    exact (List.cons.inj this).2
 ·refine ⟨fun h => by simp [condM, ho] at h, fun h => ?_⟩
  have := h [] (fun x hx => by cases hx) (Nat.zero_le _)
  rw [run_cons, run_cons] at this
  exact absurd (List.cons.inj this).1 ho
def pickI (m : Mach) (n s t : Nat) : Option Nat := (List.range m.ins.toNat).find? fun i => condM (iterM m n) (ex (rowN m s) i) (ex (rowN m t) i)
def refW (m : Mach) : Nat → Nat → Nat → List Int
 | 0, _, _ => []
 | n + 1, s, t => match pickI m n s t with
   | some i => (i : Int) :: refW m n (ex (rowN m s) i).1.toNat (ex (rowN m t) i).1.toNat
   | none => refW m n s t
theorem range_find {n i : Nat} {p : Nat → Bool} (h : (List.range n).find? p = some i) : i < n ∧ p i = true ∧ ∀ j, j < i → p j = false := by
 obtain ⟨h1, l1, l2, h2, h3⟩ := List.find?_eq_some_iff_append.1 h
 have hl := congrArg List.length h2
 simp only [List.length_range, List.length_append, List.length_cons] at hl
 have hi : i = l1.length := by
  have h4 : (List.range n)[l1.length]? = some i := by rw [h2, List.getElem?_append_right (Nat.le_refl _), Nat.sub_self]; rfl
  rw [List.getElem?_range (by omega)] at h4
  simpa using h4.symm
 refine ⟨by omega, h1, fun j hj => ?_⟩
 have h4 : (List.range n)[j]? = some j := List.getElem?_range (by omega)
 rw [h2, List.getElem?_append_left (by omega)] at h4
 have := h3 j (List.mem_of_getElem? h4)
 simpa using this
def LeastS (m : Mach) (s t : Nat) (w : List Int) : Prop :=
 WOk m.ins.toNat w ∧ runR m s w ≠ runR m t w ∧ ∀ v, WOk m.ins.toNat v → runR m s v ≠ runR m t v → rank m.ins.toNat w ≤ rank m.ins.toNat v
theorem refW_least {m : Mach} (hv : WV m) : ∀ (n s t : Nat), s < m.rows.length → t < m.rows.length → iterM m n s t = true → iterM m (n - 1) s t = false → LeastS m s t (refW m n s t)
 | 0, s, t, _, _, h, _ => by simp [iterM] at h
 | n + 1, s, t, hs, ht, h, h0 => by
   rw [Nat.add_sub_cancel] at h0
   have hal := (iterM_is hv n s t hs ht).1 h0
   have hap : apartB m (iterM m n) s t = true := by simpa [iterM, h0] using h
   have hlong : ∀ v, WOk m.ins.toNat v → runR m s v ≠ runR m t v → n < v.length := fun v h1 h2 => by
    by_cases h3 : n < v.length
    ·exact h3
    ·exact absurd (hal v h1 (by omega)) h2
   rw [refW]
   cases hp : pickI m n s t with
   | none =>
     exfalso
     unfold pickI at hp
     rw [List.find?_eq_none] at hp
     obtain ⟨i, hi, hc⟩ := List.any_eq_true.1 hap
     exact hp i hi hc
   | some i =>
     obtain ⟨hi, hc, hbef⟩ := range_find hp
     simp only
     have hless : ∀ c v, WOk m.ins.toNat ((c : Int) :: v) → v.length ≤ n → runR m s ((c : Int) :: v) ≠ runR m t ((c : Int) :: v) → i ≤ c.toNat := fun c v h1 h2 h3 => by
      by_cases h4 : i ≤ c.toNat
      ·exact h4
      ·have hc0 := h1.head
       have := (cond_iff hv hs ht (show c.toNat < m.ins.toNat by omega)).1 (hbef c.toNat (by omega)) v h1.tail h2
       rw [show ((c.toNat : Nat) : Int) = c by omega] at this
       exact absurd this h3
     by_cases ho : (ex (rowN m s) i).2 = (ex (rowN m t) i).2
     ·rcases ex_bothW hv hs ht hi ho with ⟨e1, e2⟩ | ⟨p, q, e1, e2, hp, hq⟩
      ·simp [condM, ho, e1] at hc
      ·have hpq : iterM m n p q = true := by simpa [condM, ho, e1, e2] using hc
       have hpq0 : iterM m (n - 1) p q = false := by
        rw [iterM_is hv (n - 1) p q hp hq]
        intro v h1 h2
        cases n with
        | zero => simp [iterM] at hpq
        | succ n =>
          have := hal ((i : Int) :: v) (h1.cons (by omega)) (by simp; omega)
          rw [run_cons, run_cons, e1, e2] at this
          exact (List.cons.inj this).2
       obtain ⟨l1, l2, l3⟩ := refW_least hv n p q hp hq hpq hpq0
       rw [e1, e2, Int.toNat_natCast, Int.toNat_natCast]
       have hd : runR m s ((i : Int) :: refW m n p q) ≠ runR m t ((i : Int) :: refW m n p q) := by
        rw [run_cons, run_cons, e1, e2]
        intro he; exact l2 (List.cons.inj he).2
       have hwo := l1.cons (k := m.ins.toNat) (a := (i : Int)) (by omega)
       have hlen : (refW m n p q).length = n := by
        have h1 := hlong _ hwo hd
        simp only [List.length_cons] at h1
        have h2 : ¬ Alike m n p q := fun h2 => by rw [(iterM_is hv n p q hp hq).2 h2] at hpq; cases hpq
        simp only [Alike, Classical.not_forall] at h2
        obtain ⟨v, v1, v2, v3⟩ := h2
        have := rank_lt_len v1 (l3 v v1 v3)
        omega
       refine ⟨hwo, hd, fun v hv1 hv2 => ?_⟩
       have hvl := hlong v hv1 hv2
       match v, hv1 with
       | [], _ => simp at hvl
       | c :: v, hv1 =>
         simp only [List.length_cons] at hvl
         by_cases hvn : v.length = n
         ·have hci := hless c v hv1 (by omega) hv2
          by_cases e : c.toNat = i
          ·obtain rfl : c = (i : Int) := by have := hv1.head; omega
           refine rank_cons (by omega) (l3 v hv1.tail fun he => hv2 ?_)
           rw [run_cons, run_cons, ho, e1, e2, he]
          ·exact Nat.le_of_lt (rank_head (by omega) l1 (by omega))
         ·exact Nat.le_of_lt (rank_len hwo (by simp only [List.length_cons]; omega))
     ·have hn : n = 0 := by
        by_cases hn : n = 0
        ·exact hn
        ·have := hal [(i : Int)] (fun x hx => by simp at hx; omega) (by simp; omega)
         rw [run_cons, run_cons] at this
         exact absurd (List.cons.inj this).1 ho
      subst hn
      refine ⟨fun x hx => by simp [refW] at hx; omega, fun he => ?_, fun v hv1 hv2 => ?_⟩
      ·rw [run_cons, run_cons] at he
       exact ho (List.cons.inj he).1
      ·match v, hv1 with
       | [], _ => exact absurd rfl hv2
       | [c], hv1 =>
         have hci := hless c [] hv1 (Nat.le_refl _) hv2
         by_cases e : c.toNat = i
         ·obtain rfl : c = (i : Int) := by have := hv1.head; omega
          exact Nat.le_refl _
         ·exact Nat.le_of_lt (rank_head rfl (fun x hx => by cases hx) (by omega))
       | c :: d :: v, hv1 => exact Nat.le_of_lt (rank_len (fun x hx => by simp [refW] at hx; omega) (by simp [refW]))
theorem first_of (p : Nat → Bool) : ∀ N, ∃ n, n ≤ N ∧ (∀ k, k < n → p k = false) ∧ (n = N ∨ p n = true)
 | 0 => ⟨0, Nat.le_refl _, fun k hk => by omega, .inl rfl⟩
 | N + 1 => by
   obtain ⟨n, h1, h2, h3⟩ := first_of p N
   by_cases hp : p n = true
   ·exact ⟨n, by omega, h2, .inr hp⟩
   ·obtain rfl : n = N := h3.resolve_right hp
    exact ⟨n + 1, Nat.le_refl _, fun k hk => by
     by_cases e : k = n
     ·subst e; simpa using hp
     ·exact h2 k (by omega), .inl rfl⟩
def besRow (n : Int) (r : Row) : Row := (false, r.2.map fun e => if 0 ≤ e.1 then (e.1 + n, e.2) else e)
def besM (a b : Mach) : Mach := ⟨a.ins, max a.outs b.outs, false, a.rows ++ b.rows.map (besRow a.rows.length)⟩
theorem besM_len (a b : Mach) : (besM a b).rows.length = a.rows.length + b.rows.length := by simp [besM]
theorem besM_wv {a b : Mach} (ha : Valid a) (hb : Valid b) (hab : a.ins = b.ins) : WV (besM a b) := by
 have h1 := ha.rows
 have h2 := hb.rows
 refine ⟨ha.ins, by rw [besM_len]; omega, fun r hr => ?_⟩
 rw [besM_len]
 simp only [besM] at hr ⊢
 rcases List.mem_append.1 hr with hr | hr
 ·obtain ⟨k1, k2⟩ := ha.row r hr
  refine ⟨k1, fun e he => ?_⟩
  have := fits_cases (k2 e he)
  unfold fitsR; simp; omega
 ·obtain ⟨r', hr', rfl⟩ := List.mem_map.1 hr
  obtain ⟨k1, k2⟩ := hb.row r' hr'
  refine ⟨by simp only [besRow, List.length_map]; omega, fun e he => ?_⟩
  obtain ⟨e', he', rfl⟩ := List.mem_map.1 he
  have := fits_cases (k2 e' he')
  split <;> (unfold fitsR; simp; omega)
theorem bes_a (a b : Mach) {s i : Int} (hs : s < a.rows.length) : stepR (besM a b) s i = stepR a s i := by
 unfold stepR
 by_cases h0 : s < 0
 ·rw [if_pos h0, if_pos h0]
 ·rw [if_neg h0, if_neg h0]
  simp only [besM]
  rw [List.getElem?_append_left (by omega)]
theorem bes_b (a b : Mach) {t i : Int} (h0 : 0 ≤ t) : stepR (besM a b) (a.rows.length + t) i = if 0 ≤ (stepR b t i).1 then ((stepR b t i).1 + a.rows.length, (stepR b t i).2) else stepR b t i := by
 have hb' : stepR b t i = (((b.rows[t.toNat]?).map (·.2)).getD [])[i.toNat]?.getD (-1, -1) := by unfold stepR; rw [if_neg (by omega)]
 rw [hb']
 unfold stepR
 rw [if_neg (by omega)]
 simp only [besM]
 rw [List.getElem?_append_right (by omega), show ((a.rows.length : Int) + t).toNat - a.rows.length = t.toNat by omega, List.getElem?_map]
 cases hr : b.rows[t.toNat]? with
 | none => simp
 | some r =>
   simp only [Option.map_some, Option.getD_some, besRow, List.getElem?_map]
   cases he : r.2[i.toNat]? with
   | none => simp
   | some e => simp
theorem bes_runa {a : Mach} (ha : Valid a) (b : Mach) : ∀ (w : List Int) (s : Int), s < a.rows.length → (∀ i ∈ w, 0 ≤ i ∧ i < a.ins) → runR (besM a b) s w = runR a s w
 | [], _, _, _ => rfl
 | i :: w, s, hs, hw => by
   simp only [runR, bes_a a b hs]
   rw [bes_runa ha b w _ (stepR_lt ha hs (hw i List.mem_cons_self)) fun j hj => hw j (List.mem_cons_of_mem _ hj)]
theorem runR_deadR (m : Mach) : ∀ (w : List Int), runR m (-1) w = w.map fun _ => -1
 | [] => rfl
 | a :: w => by simp only [runR, stepR_dead, runR_deadR m w, List.map_cons]
theorem bes_runb (a : Mach) {b : Mach} (hb : Valid b) : ∀ (w : List Int) (t : Int), 0 ≤ t → t < b.rows.length → (∀ i ∈ w, 0 ≤ i ∧ i < b.ins) → runR (besM a b) (a.rows.length + t) w = runR b t w
 | [], _, _, _, _ => rfl
 | i :: w, t, h0, ht, hw => by
   have hw' : ∀ j ∈ w, 0 ≤ j ∧ j < b.ins := fun j hj => hw j (List.mem_cons_of_mem _ hj)
   simp only [runR, bes_b a b h0]
   rcases stepR_ends hb h0 ht (hw i List.mem_cons_self) with h | h
   ·rw [if_neg (by omega), h.1, runR_deadR, runR_deadR]
   ·rw [if_pos h.1]
    simp only
    rw [Int.add_comm, bes_runb a hb w _ h.1 h.2.1 hw']
theorem bes_least {a b : Mach} (ha : Valid a) (hb : Valid b) (hab : a.ins = b.ins) {w : List Int} (h : LeastS (besM a b) 0 a.rows.length w) : Least2 a b w := by
 have h1 := ha.rows
 have h2 := hb.rows
 have hins := ha.ins
 have e : ∀ v, WOk a.ins.toNat v → runR (besM a b) ((0 : Nat) : Int) v = runR a 0 v ∧ runR (besM a b) (a.rows.length : Int) v = runR b 0 v := fun v hv => by
  have q1 := bes_runa ha b v 0 (by omega) fun i hi => by have := hv i hi; omega
  have q2 := bes_runb a hb v 0 (by omega) (by omega) fun i hi => by have := hv i hi; omega
  rw [Int.add_zero] at q2
  exact ⟨q1, q2⟩
 obtain ⟨k1, k2, k3⟩ := h
 have k1 : WOk a.ins.toNat w := k1
 rw [(e w k1).1, (e w k1).2] at k2
 exact ⟨k1, k2, fun v hv hd => k3 v hv (by rw [(e v hv).1, (e v hv).2]; exact hd)⟩
theorem ref10_word {a b : Mach} (ha : Valid a) (hb : Valid b) (hab : a.ins = b.ins) {n : Nat} (hn : n ≤ a.rows.length + b.rows.length) (hk : ∀ k, k < n → iterM (besM a b) k 0 a.rows.length = false) (he : n = a.rows.length + b.rows.length ∨ iterM (besM a b) n 0 a.rows.length = true) :
  (n = a.rows.length + b.rows.length ∧ diffO a b = none ∧ diffW a b = []) ∨ (n < a.rows.length + b.rows.length ∧ iterM (besM a b) n 0 a.rows.length = true ∧ (diffO a b).isSome = true ∧ refW (besM a b) n 0 a.rows.length = diffW a b) := by
 have h1 := ha.rows
 have h2 := hb.rows
 have hins := ha.ins
 have hw := besM_wv ha hb hab
 have hl := besM_len a b
 by_cases hx : iterM (besM a b) n 0 a.rows.length = true
 ·have hn0 : n ≠ 0 := fun e => by subst e; simp [iterM] at hx
  have hL := bes_least ha hb hab (refW_least hw n 0 a.rows.length (by omega) (by omega) hx (hk (n - 1) (by omega)))
  have hd : (diffO a b).isSome = true ∧ Least2 a b (diffW a b) := by
   rcases diff_least ha hb hab with h | ⟨_, _, h⟩
   ·exact h
   ·exact absurd (h _ hL.1) hL.2.1
  refine .inr ⟨?_, hx, hd.1, hL.uniq hd.2⟩
  by_cases hlt : n < a.rows.length + b.rows.length
  ·exact hlt
  ·exfalso
   have ha1 := (iterM_is hw (n - 1) 0 a.rows.length (by omega) (by omega)).1 (hk (n - 1) (by omega))
   have := alike_all hw (k := n - 1) (by omega) (by omega) (by omega) ha1
   rw [(iterM_is hw n 0 a.rows.length (by omega) (by omega)).2 fun v hv _ => this v hv] at hx
   cases hx
 ·obtain rfl := he.resolve_right hx
  refine .inl ⟨rfl, ?_⟩
  have ha1 := (iterM_is hw (a.rows.length + b.rows.length - 1) 0 a.rows.length (by omega) (by omega)).1 (hk _ (by omega))
  have hal := alike_all hw (by omega) (by omega) (by omega) ha1
  rcases diff_least ha hb hab with ⟨_, h⟩ | ⟨h3, h4, _⟩
  ·exfalso
   have q1 := bes_runa ha b (diffW a b) 0 (by omega) fun i hi => by have := h.1 i hi; omega
   have q2 := bes_runb a hb (diffW a b) 0 (by omega) (by omega) fun i hi => by have := h.1 i hi; omega
   rw [Int.add_zero] at q2
   have := hal _ h.1
   rw [q2] at this
   exact h.2.1 (q1.symm.trans this)
  ·exact ⟨h3, h4⟩
def rowsT (l : List Row) (k : Nat) : List (List AV) := (l.take k).map rowC
theorem rowsT_succ {l : List Row} {k : Nat} {r : Row} (h : l[k]? = some r) : rowsT l k ++ [rowC r] = rowsT l (k + 1) := by
 obtain ⟨hi, he⟩ := List.getElem?_eq_some_iff.1 h
 unfold rowsT
 rw [List.take_succ_eq_append_getElem hi, he, List.map_append]; rfl
theorem rowsT_len {l : List Row} {k : Nat} (h : k ≤ l.length) : (rowsT l k).length = k := by simp [rowsT]; omega
@[go_sem] theorem norefs_rowsT (l : List Row) (k : Nat) : (rowsT l k).all AV.norefs = true := by
 rw [List.all_eq_true]
 intro c hc
 obtain ⟨r, _, rfl⟩ := List.mem_map.1 hc
 exact rowC_norefs r
theorem rowsT_all (l : List Row) : rowsT l l.length = l.map rowC := by rw [rowsT, List.take_length]
def edgT (l : List (Int × Int)) (k : Nat) : List (List AV) := (l.take k).map edgeC
theorem edgT_succ {l : List (Int × Int)} {k : Nat} {e : Int × Int} (h : l[k]? = some e) : edgT l k ++ [edgeC e] = edgT l (k + 1) := by
 obtain ⟨hi, he⟩ := List.getElem?_eq_some_iff.1 h
 unfold edgT
 rw [List.take_succ_eq_append_getElem hi, he, List.map_append]; rfl
theorem edgT_len {l : List (Int × Int)} {k : Nat} (h : k ≤ l.length) : (edgT l k).length = k := by simp [edgT]; omega
@[go_sem] theorem norefs_edgT (l : List (Int × Int)) (k : Nat) : (edgT l k).all AV.norefs = true := by
 rw [List.all_eq_true]
 intro c hc
 obtain ⟨e, _, rfl⟩ := List.mem_map.1 hc
 rfl
theorem edgT_all (l : List (Int × Int)) : edgT l l.length = l.map edgeC := by rw [edgT, List.take_length]
theorem beside_is {a b : Mach} (ha : Valid a) (hb : Valid b) (hab : a.ins = b.ins) : PureIs prog 84 [.ag a.cells, .ag b.cells] (.ag (besM a b).cells) := by
 have h1 := ha.rows
 have h2 := hb.rows
 have h3 := ha.ins
 have h4 := ha.outs
 have h5 := hb.outs
 refine PureIs.of1 11 [23, 40, 46, 59] func84 ntmps84 results84 fun _ => ?_
 refine EvC.a ?_ (by simp only [go_sem, Mach.cells] <;> rfl)
 refine EvC.z 0 ?_
 refine EvC.z 1 ?_
 refine EvC.a ?_ (by simp only [go_sem, Mach.cells] <;> rfl)
 obtain ⟨O, hO⟩ : ∃ O : Int, O = max a.outs b.outs := ⟨_, rfl⟩
 rw [show (if a.outs ≤ b.outs then b.outs else a.outs) = O from hO.symm]
 refine EvC.ownC 11 2 1 (by simp only [go_sem] <;> rfl) ?_
 refine EvC.seq ?_
 refine EvC.a ?_
 refine EvC.block ?_
 refine EvC.loopS (σ := Nat) (fun i => ⟨[(2, .ia a.cells), (3, .ia b.cells), (4, .rf 0 0), (5, .rf 1 0), (6, .sc (.int .i64 i))], [], [(0, .cells [.sc (.int .i64 0), .sc (.int .i64 0), .sl true [] .zer]), (1, .cells [.sc (.int .i64 a.ins), .sc (.int .i64 O), .tl 2 i (i == 0)]), (2, .arr 1 (rowsT a.rows i) true)], 3⟩) (fun i => a.rows.length - i) (fun i => i ≤ a.rows.length) [2, 3, 4, 5, 6] 3 ?_ ?_
 ·exact ⟨[(2, 0), (11, 1), (13, 2)], 0, rfl, (by simp only [go_sem, Int.natCast_zero, Mach.cells, rowsT, List.take_zero, List.map_nil] <;> rfl), Nat.zero_le _⟩
 intro i hi
 have hl := rowsT_len hi
 refine EvC.seq ?_
 refine EvC.a ?_ (by simp only [go_sem, Mach.cells, List.length_map] <;> rfl)
 refine EvC.cond (by simp only [go_sem] <;> rfl) (fun hc => ?_) (fun hc => ?_)
 rotate_left
 ·refine EvC.exit ?_
  obtain rfl : i = a.rows.length := by have : ¬ i < a.rows.length := (by simpa using hc); omega
  clear hc hi
  obtain ⟨NA, hNA⟩ : ∃ n, n = a.rows.length := ⟨_, rfl⟩
  obtain ⟨L, hL⟩ : ∃ L, L = (besM a b).rows := ⟨_, rfl⟩
  have hL2 : L = a.rows ++ b.rows.map (besRow NA) := by rw [hL, hNA]; rfl
  have hLl : L.length = NA + b.rows.length := by rw [hL2, hNA]; simp
  have hT0 : rowsT a.rows NA = rowsT L NA := by rw [rowsT, rowsT, hL2, hNA, List.take_left, List.take_length]
  have hnz : (NA == 0) = false := by simp; omega
  rw [← hNA] at hl ⊢
  rw [hT0] at hl ⊢
  refine EvC.seq ?_
  refine EvC.a ?_
  refine EvC.block ?_
  refine EvC.loopS (σ := Nat) (fun t => ⟨[(2, .ia a.cells), (3, .ia b.cells), (4, .rf 0 0), (5, .rf 1 0), (7, .sc (.int .i64 t))], [], [(0, .cells [.sc (.int .i64 0), .sc (.int .i64 0), .sl true [] .zer]), (1, .cells [.sc (.int .i64 a.ins), .sc (.int .i64 O), .tl 2 (NA + t) false]), (2, .arr 1 (rowsT L (NA + t)) true)], 3⟩) (fun t => b.rows.length - t) (fun t => t ≤ b.rows.length) [2, 3, 4, 5, 7] 3 ?_ ?_
  ·exact ⟨[(0, 0), (1, 1), (2, 2)], 0, rfl, (by simp only [go_sem, Int.natCast_zero, Mach.cells, hnz, Nat.add_zero] <;> rfl), Nat.zero_le _⟩
  intro t ht
  have hlt := rowsT_len (l := L) (k := NA + t) (by omega)
  refine EvC.seq ?_
  refine EvC.a ?_ (by simp only [go_sem, Mach.cells, List.length_map] <;> rfl)
  refine EvC.cond (by simp only [go_sem] <;> rfl) (fun hc => ?_) (fun hc => ?_)
  rotate_left
  ·refine EvC.exit ?_
   obtain rfl : t = b.rows.length := by have : ¬ t < b.rows.length := (by simpa using hc); omega
   rw [← hLl] at hlt ⊢
   rw [rowsT_all] at hlt ⊢
   have hn : (L.map rowC).all AV.norefs = true := by rw [← rowsT_all]; exact norefs_rowsT _ _
   refine EvC.frzD 2 (by simp only [go_sem, hlt, hn] <;> rfl) ?_
   refine EvC.a ?_
   refine EvC.rz ?_
   simp only [go_sem]
   rw [hL, hO]; rfl
  have htl : t < b.rows.length := by simpa using hc
  clear hc
  have hbr := List.getElem?_eq_getElem htl
  have hmr := List.getElem_mem htl
  generalize b.rows[t] = r at hbr hmr
  have hbl := (hb.row r hmr).1
  have hbf := (hb.row r hmr).2
  have hLr : L[NA + t]? = some (besRow NA r) := by rw [hL2, hNA, List.getElem?_append_right (Nat.le_add_right _ _), Nat.add_sub_cancel_left, List.getElem?_map, hbr]; rfl
  obtain ⟨R, hR⟩ : ∃ R, R = (besRow NA r).2 := ⟨_, rfl⟩
  have hRl : R.length = b.ins.toNat := by rw [hR, besRow]; simp only [List.length_map]; omega
  have hbes : besRow NA r = (false, R) := by rw [hR]; rfl
  have hsT := rowsT_succ hLr
  rw [hbes] at hsT
  simp only [rowC] at hsT
  have htt : ((t : Int)).toNat = t := Int.toNat_natCast t
  refine EvC.skip ?_
  refine EvC.seq ?_
  refine EvC.block ?_
  refine EvC.a ?_
  refine EvC.seq ?_
  refine EvC.a ?_
  refine EvC.block ?_
  refine EvC.loopS (σ := Nat) (fun i => ⟨[(2, .ia a.cells), (3, .ia b.cells), (4, .rf 0 0), (5, .rf 1 0), (7, .sc (.int .i64 t)), (8, .tl 3 i (i == 0)), (9, .sc (.int .i64 i))], [], [(0, .cells [.sc (.int .i64 0), .sc (.int .i64 0), .sl true [] .zer]), (1, .cells [.sc (.int .i64 a.ins), .sc (.int .i64 O), .tl 2 (NA + t) false]), (2, .arr 1 (rowsT L (NA + t)) true), (3, .arr 2 (edgT R i) true)], 4⟩) (fun i => b.ins.toNat - i) (fun i => i ≤ b.ins.toNat) [2, 3, 4, 5, 7, 8, 9] 4 ?_ ?_
  ·exact ⟨[(0, 0), (1, 1), (2, 2), (8, 3)], 0, rfl, (by simp only [go_sem, Int.natCast_zero, Mach.cells, edgT, List.take_zero, List.map_nil] <;> rfl), Nat.zero_le _⟩
  intro i hi
  have hel := edgT_len (l := R) (k := i) (by omega)
  refine EvC.seq ?_
  refine EvC.a ?_ (by simp only [go_sem, Mach.cells] <;> rfl)
  refine EvC.cond (by simp only [go_sem] <;> rfl) (fun hc => ?_) (fun hc => ?_)
  rotate_left
  ·refine EvC.exit ?_
   obtain rfl : i = b.ins.toNat := by have : ¬ (i : Int) < b.ins := (by simpa using hc); omega
   have hz : (b.ins.toNat == 0) = false := by simp; omega
   rw [← hRl] at hel ⊢
   rw [edgT_all] at hel ⊢
   have hz2 : (R.length == 0) = false := by rw [hRl]; exact hz
   rw [hz2]
   refine EvC.frz 3 (by simp only [go_sem, hel] <;> rfl) ?_
   have hr : room (NA + t + 1) 24 = true := by simp only [room_eq, decide_eq_true_eq]; omega
   have hlt2 := rowsT_len (l := L) (k := NA + (t + 1)) (by omega)
   refine EvC.b ?_ (by simp only [go_sem, hlt, hsT] <;> rfl) (by simp [hr])
   refine EvC.b ?_ (hok := by exact inI64_of (by omega) (by omega))
   exact ⟨[(0, 0), (1, 1), (2, 2)], t + 1, rfl, (by simp only [go_sem, Mach.cells, hlt2, Int.natCast_add, Int.natCast_one, Nat.add_assoc] <;> rfl), htl, by omega⟩
  have hil : i < b.ins.toNat := by have : (i : Int) < b.ins := (by simpa using hc); omega
  clear hc
  have hil2 : i < r.2.length := by omega
  have her := List.getElem?_eq_getElem hil2
  have hem := hbf _ (List.getElem_mem hil2)
  generalize r.2[i] = e at her hem
  have hef := fits_cases hem
  have hRe : R[i]? = some (if 0 ≤ e.1 then (e.1 + (NA : Int), e.2) else e) := by rw [hR, besRow]; simp only [List.getElem?_map, her, Option.map_some]
  have hsE := edgT_succ hRe
  have hit : ((i : Int)).toNat = i := Int.toNat_natCast i
  have hel2 := edgT_len (l := R) (k := i + 1) (by omega)
  have hr : room (i + 1) 16 = true := by simp only [room_eq, decide_eq_true_eq]; omega
  have hne : (i + 1 == 0) = false := rfl
  refine EvC.skip ?_
  refine EvC.seq ?_
  refine EvC.block ?_
  refine EvC.a ?_ (by simp only [go_sem, Mach.cells, List.length_map, hbr, htt, rowC, her, hit, edgeC] <;> rfl) (by simp; try omega)
  refine EvC.seq ?_
  refine EvC.a ?_
  by_cases h0 : 0 ≤ e.1
  ·refine EvC.ct ?_ (by simp only [go_sem, decide_eq_true h0] <;> rfl)
   rw [if_pos h0] at hsE
   simp only [edgeC] at hsE
   have hI : inI64 (e.1 + (NA : Int)) = true := inI64_of (by omega) (by omega)
   refine EvC.b ?_ (by simp only [go_sem, Mach.cells, List.length_map, ← hNA] <;> rfl) (by simp [hI])
   refine EvC.b ?_ (by simp only [go_sem, hel, hsE] <;> rfl) (by simp [hr])
   refine EvC.b ?_ (hok := by exact inI64_of (by omega) (by omega))
   exact ⟨[(0, 0), (1, 1), (2, 2), (3, 3)], i + 1, rfl, (by simp only [go_sem, Mach.cells, hne, hel2, Int.natCast_add, Int.natCast_one] <;> rfl), hil, by omega⟩
  ·refine EvC.cf ?_ (by simp only [go_sem, decide_eq_false h0] <;> rfl)
   rw [if_neg h0] at hsE
   simp only [edgeC] at hsE
   refine EvC.skip ?_
   refine EvC.b ?_ (by simp only [go_sem, hel, hsE] <;> rfl) (by simp [hr])
   refine EvC.b ?_ (hok := by exact inI64_of (by omega) (by omega))
   exact ⟨[(0, 0), (1, 1), (2, 2), (3, 3)], i + 1, rfl, (by simp only [go_sem, Mach.cells, hne, hel2, Int.natCast_add, Int.natCast_one] <;> rfl), hil, by omega⟩
 have hil : i < a.rows.length := by simpa using hc
 clear hc
 have he := List.getElem?_eq_getElem hil
 generalize a.rows[i] = r at he
 have hs := rowsT_succ he
 have hl2 := rowsT_len (l := a.rows) (k := i + 1) hil
 have hr : room (i + 1) 24 = true := by simp only [room_eq, decide_eq_true_eq]; omega
 have hit : ((i : Int)).toNat = i := Int.toNat_natCast i
 simp only [rowC] at hs
 refine EvC.skip ?_
 refine EvC.seq ?_
 refine EvC.block ?_
 refine EvC.dL mixed ?_ (h := by simp only [go_sem, Mach.cells, List.length_map, he, hit, rowC, hl, hs] <;> rfl) (hok := by simp [hr]; try omega)
 have hne : (i + 1 == 0) = false := rfl
 refine EvC.b ?_ (hok := by exact inI64_of (by omega) (by omega))
 exact ⟨[(0, 0), (1, 1), (2, 2)], i + 1, rfl, (by simp only [go_sem, Mach.cells, hne, hl2, Int.natCast_add, Int.natCast_one] <;> rfl), hil, by omega⟩
theorem mtab_at {n i k : Nat} {M : Mtx} (h : k < i) : (mtab n M i)[k]? = some [.sl false (((List.range n).map (M k)).map boolC) .unk] := mtab_get h
theorem pick_next {m : Mach} (hv : WV m) {n s t : Nat} (hs : s < m.rows.length) (ht : t < m.rows.length) (h : iterM m (n + 1) s t = true) (h0 : iterM m n s t = false) :
  ∃ i, pickI m n s t = some i ∧ i < m.ins.toNat ∧ condM (iterM m n) (ex (rowN m s) i) (ex (rowN m t) i) = true ∧ (∀ j, j < i → condM (iterM m n) (ex (rowN m s) j) (ex (rowN m t) j) = false) ∧
    (0 < n → ∃ p q : Nat, (ex (rowN m s) i).1 = (p : Int) ∧ (ex (rowN m t) i).1 = (q : Int) ∧ p < m.rows.length ∧ q < m.rows.length ∧ iterM m n p q = true ∧ iterM m (n - 1) p q = false) := by
 have hal := (iterM_is hv n s t hs ht).1 h0
 have hap : apartB m (iterM m n) s t = true := by simpa [iterM, h0] using h
 cases hp : pickI m n s t with
 | none =>
   exfalso
   unfold pickI at hp
   rw [List.find?_eq_none] at hp
   obtain ⟨i, hi, hc⟩ := List.any_eq_true.1 hap
   exact hp i hi hc
 | some i =>
   obtain ⟨hi, hc, hbef⟩ := range_find hp
   refine ⟨i, rfl, hi, hc, hbef, fun hn => ?_⟩
   have ho : (ex (rowN m s) i).2 = (ex (rowN m t) i).2 := by
    have := hal [(i : Int)] (fun x hx => by simp at hx; omega) (by simp; try omega)
    rw [run_cons, run_cons] at this
    exact (List.cons.inj this).1
   rcases ex_bothW hv hs ht hi ho with ⟨e1, e2⟩ | ⟨p, q, e1, e2, hp', hq'⟩
   ·simp [condM, ho, e1] at hc
   ·have hpq : iterM m n p q = true := by simpa [condM, ho, e1, e2] using hc
    refine ⟨p, q, e1, e2, hp', hq', hpq, ?_⟩
    rw [iterM_is hv (n - 1) p q hp' hq']
    intro v h1 h2
    have := hal ((i : Int) :: v) (h1.cons (by omega)) (by simp; try omega)
    rw [run_cons, run_cons, e1, e2] at this
    exact (List.cons.inj this).2
theorem ref10_is {a b : Mach} (ha : Valid a) (hb : Valid b) (hab : a.ins = b.ins) :
  PureIs prog 57 [.ag a.cells, .ag b.cells] (.tu [.sl (diffW a b).isEmpty ((diffW a b).map intC) .unk, .sc (.bool (diffO a b).isSome)]) := by
 obtain ⟨n0, k1, k2, k3⟩ := first_of (fun k => iterM (besM a b) k 0 a.rows.length) (a.rows.length + b.rows.length)
 have hword := ref10_word ha hb hab k1 k2 k3
 have q0 := beside_is ha hb hab
 have hw := besM_wv ha hb hab
 have hml := besM_len a b
 have hra := ha.rows
 have hrb := hb.rows
 generalize besM a b = m at *
 obtain ⟨K, hK⟩ : ∃ K, K = a.rows.length := ⟨_, rfl⟩
 have hms : ∀ n : Nat, n < 1000000 → PureIs prog 85 [.ag m.cells, .sc (.int .i64 n)] (.sl false (mtab m.rows.length (iterM m n) m.rows.length) .unk) := fun n hn => marked_is hw n hn
 have hins := hw.ins
 obtain ⟨N, hN⟩ : ∃ N, N = m.rows.length := ⟨_, rfl⟩
 rw [← hK] at hword hml k2 k3 k1
 simp only [← hN] at hms hml
 rw [← hml] at hword k1 k3
 have htl := fun M => mtab_len N M N
 refine PureIs.of1 15 [37, 44, 46, 56, 100] func57 ntmps57 results57 fun _ => ?_
 refine EvC.a ?_ (by simp only [go_sem, Mach.cells] <;> rfl)
 refine EvC.z 0 ?_
 refine EvC.z 1 ?_
 refine EvC.k1 ?_ (h1 := by simp only [go_sem, Mach.cells] <;> rfl) (c1 := .ca q0) (h2 := by simp only [go_sem, Mach.cells] <;> rfl)
 refine EvC.z 7 ?_
 refine EvC.d mixed ?_ (h := by simp only [go_sem, Mach.cells, List.length_map, ← hK] <;> rfl)
 refine EvC.a ?_
 refine EvC.seq ?_
 refine EvC.block ?_
 refine EvC.loopS (σ := Nat) (fun n => ⟨[(6, .ia m.cells), (7, .sc (.int .i64 0)), (8, .sc (.int .i64 K)), (9, .sc (.int .i64 n))], [], [], 0⟩) (fun n => n0 - n) (fun n => n ≤ n0) [6, 7, 8, 9] 0 ?_ ?_
 ·exact ⟨[], 0, rfl, (by simp only [go_sem, Int.natCast_zero, Mach.cells] <;> rfl), Nat.zero_le _⟩
 intro n hn
 refine EvC.seq ?_
 by_cases hlt : n < n0
 ·have hnN : (n : Int) < m.rows.length := by omega
  have hkg : (List.range N)[K]? = some K := List.getElem?_range (by omega)
  have hb0 : iterM m n 0 K = false := k2 n hlt
  have hm0 := fun M => mtab_at (n := N) (M := M) (show 0 < N by omega)
  refine EvC.k1 ?_ (h1 := by simp only [go_sem, Mach.cells, List.length_map, decide_eq_true hnN, htl, hm0, hkg, boolC, hb0, Int.toNat_natCast, List.length_range] <;> rfl) (k1 := by simp; try omega) (c1 := .cg (hms n (by omega))) (h2 := by simp only [go_sem, hm0, htl, hkg, boolC, hb0, Int.toNat_natCast, List.length_map, List.length_range] <;> rfl) (k2 := by simp; try omega)
  refine EvC.cr ?_
  refine EvC.block ?_
  refine EvC.b ?_ (hok := by exact inI64_of (by omega) (by omega))
  exact ⟨[], n + 1, rfl, (by simp only [go_sem, Int.natCast_add, Int.natCast_one, Mach.cells] <;> rfl), hlt, by omega⟩
 obtain rfl : n = n0 := by omega
 rcases hword with ⟨he, h1, h2⟩ | ⟨hnN, hit, h1, h2⟩
 ·
  have hnN : ¬ (n : Int) < m.rows.length := by omega
  have heq : (n : Int) = m.rows.length := by omega
  have hkg : (List.range N)[K]? = some K := List.getElem?_range (by omega)
  obtain ⟨b0, hb0⟩ : ∃ b, iterM m n 0 K = b := ⟨_, rfl⟩
  have hm0 := fun M => mtab_at (n := N) (M := M) (show 0 < N by omega)
  apply EvC.s1
  ·apply Tr.run
   ·simp only [go_sem, Mach.cells, List.length_map, decide_eq_false hnN, htl, hm0, hkg, boolC, hb0, Int.toNat_natCast, List.length_range] <;> rfl
   ·simp; try omega
   apply Tr.cons
   ·exact .skipv (.sl false (mtab N (iterM m n) N) .unk) rfl rfl (by simp only [go_sem] <;> rfl) (by simp only [go_sem] <;> rfl)
   apply Tr.done
   ·simp only [go_sem, hm0, htl, hkg, boolC, hb0, Int.toNat_natCast, List.length_map, List.length_range] <;> rfl
   ·simp; try omega
  refine EvC.cf ?_
  refine EvC.exit ?_
  refine EvC.seq ?_
  refine EvC.a ?_ (by simp only [go_sem, Mach.cells, List.length_map] <;> rfl)
  refine EvC.ct ?_ (by simp only [go_sem, decide_eq_true heq] <;> rfl)
  refine EvC.a ?_
  refine EvC.rz ?_
  simp only [go_sem]
  rw [h1, h2]; rfl
 have hnN2 : (n : Int) < m.rows.length := by omega
 have heq : ¬ (n : Int) = m.rows.length := by omega
 have hkg : (List.range N)[K]? = some K := List.getElem?_range (by omega)
 have hm0 := fun M => mtab_at (n := N) (M := M) (show 0 < N by omega)
 refine EvC.k1 ?_ (h1 := by simp only [go_sem, Mach.cells, List.length_map, decide_eq_true hnN2, htl, hm0, hkg, boolC, hit, Int.toNat_natCast, List.length_range] <;> rfl) (k1 := by simp; try omega) (c1 := .cg (hms n (by omega))) (h2 := by simp only [go_sem, hm0, htl, hkg, boolC, hit, Int.toNat_natCast, List.length_map, List.length_range] <;> rfl) (k2 := by simp; try omega)
 refine EvC.cf ?_
 refine EvC.exit ?_
 refine EvC.seq ?_
 refine EvC.a ?_ (by simp only [go_sem, Mach.cells, List.length_map] <;> rfl)
 refine EvC.cs ?_ (by simp only [go_sem, decide_eq_false heq] <;> rfl)
 refine EvC.a ?_
 refine EvC.seq ?_
 refine EvC.block ?_
 clear hms
 have hms : ∀ n : Nat, n < 1000000 → PureIs prog 85 [.ag m.cells, .sc (.int .i64 n)] (.sl false (mtab N (iterM m n) N) .unk) := fun n hn => by rw [hN]; exact marked_is hw n hn
 have hn0 : n ≠ 0 := fun e => by subst e; simp [iterM] at hit
 refine EvC.loopS (σ := Nat × Int × Int × List Int) (fun g => ⟨[(6, .ia m.cells), (7, .sc (.int .i64 g.2.1)), (8, .sc (.int .i64 g.2.2.1)), (9, .sc (.int .i64 g.1)), (10, .tl 0 g.2.2.2.length g.2.2.2.isEmpty)], [], [(0, .arr 1 (g.2.2.2.map intC) true)], 1⟩) (fun g => g.1)
  (fun g => g.2.2.2 ++ refW m g.1 g.2.1.toNat g.2.2.1.toNat = diffW a b ∧ g.2.2.2.length + g.1 = n ∧ (0 < g.1 → 0 ≤ g.2.1 ∧ g.2.1 < N ∧ 0 ≤ g.2.2.1 ∧ g.2.2.1 < N ∧ iterM m g.1 g.2.1.toNat g.2.2.1.toNat = true ∧ iterM m (g.1 - 1) g.2.1.toNat g.2.2.1.toNat = false)) [6, 7, 8, 9, 10] 1 ?_ ?_
 ·refine ⟨[(22, 0)], (n, 0, K, []), rfl, (by simp only [go_sem, List.map_nil, List.length_nil, List.isEmpty_nil] <;> rfl), h2, by simp, fun _ => ⟨Int.le_refl _, by simp only; omega, by simp only; omega, by simp only; omega, ?_, ?_⟩⟩
  ·simpa using hit
  ·have := k2 (n - 1) (by omega)
   simpa using this
 rintro ⟨n', s, t, acc⟩ ⟨i1, i2, i3⟩
 simp only at i1 i2 i3 ⊢
 refine EvC.seq ?_
 refine EvC.a ?_
 refine EvC.cond (by simp only [go_sem] <;> rfl) (fun hc => ?_) (fun hc => ?_)
 rotate_left
 ·refine EvC.exit ?_
  obtain rfl : n' = 0 := by have : ¬ (0 : Int) < n' := (by simpa using hc); omega
  have hacc : acc = diffW a b := by rw [refW, List.append_nil] at i1; exact i1
  refine EvC.frz 0 (by simp only [go_sem, List.length_map] <;> rfl) ?_
  refine EvC.a ?_
  refine EvC.rz ?_
  simp only [go_sem]
  rw [hacc, h1]
 have hpos : 0 < n' := by have : (0 : Int) < n' := (by simpa using hc); omega
 clear hc
 obtain ⟨s0, s1, t0, t1, m1, m2⟩ := i3 hpos
 clear i3
 obtain ⟨sN, rfl⟩ : ∃ k : Nat, s = (k : Int) := ⟨s.toNat, by omega⟩
 obtain ⟨tN, rfl⟩ : ∃ k : Nat, t = (k : Int) := ⟨t.toNat, by omega⟩
 obtain ⟨n', rfl⟩ : ∃ k, n' = k + 1 := ⟨n' - 1, by omega⟩
 rw [Int.toNat_natCast, Int.toNat_natCast] at i1 m1 m2
 rw [Nat.add_sub_cancel] at m2
 have hsl : sN < m.rows.length := by omega
 have htl2 : tN < m.rows.length := by omega
 obtain ⟨i0, j1, j2, j3, j4, j5⟩ := pick_next hw hsl htl2 m1 m2
 rw [refW, j1] at i1
 simp only at i1
 obtain ⟨z, hz⟩ : ∃ z : Int, z = ((n' + 1 : Nat) : Int) := ⟨_, rfl⟩
 have hz1 : z - 1 = (n' : Int) := by omega
 have hIz : inI64 (n' : Int) = true := inI64_of (by omega) (by omega)
 rw [← hz]
 refine EvC.skip ?_
 refine EvC.block ?_
 refine EvC.k1 ?_ (h1 := by simp only [go_sem, hz1, Mach.cells] <;> rfl) (k1 := by simp [hIz]) (c1 := .ca (hms n' (by omega)))
 refine EvC.a ?_ (by simp only [go_sem, hz1] <;> rfl) (by simp [hIz])
 refine EvC.a ?_
 refine EvC.block ?_
 refine EvC.loopS (σ := Nat) (fun i => ⟨[(6, .ia m.cells), (7, .sc (.int .i64 sN)), (8, .sc (.int .i64 tN)), (9, .sc (.int .i64 n')), (10, .tl 0 acc.length acc.isEmpty), (11, .sl false (mtab N (iterM m n') N) .unk), (12, .sc (.int .i64 i))], [], [(0, .arr 1 (acc.map intC) true)], 1⟩) (fun i => i0 - i) (fun i => i ≤ i0) [6, 7, 8, 9, 10, 11, 12] 1 ?_ ?_
 ·exact ⟨[(0, 0)], 0, rfl, (by simp only [go_sem, hz1, Int.natCast_zero, Mach.cells] <;> rfl), Nat.zero_le _⟩
 intro i hi
 refine EvC.seq ?_
 have him : (i : Int) < m.ins := by omega
 refine EvC.a ?_ (by simp only [go_sem, Mach.cells] <;> rfl)
 refine EvC.cr ?_ (by simp only [go_sem, decide_eq_true him] <;> rfl)
 have hes : m.rows[sN]? = some m.rows[sN] := List.getElem?_eq_getElem hsl
 have het : m.rows[tN]? = some m.rows[tN] := List.getElem?_eq_getElem htl2
 have hls := row_lenW hw hsl
 have hlt := row_lenW hw htl2
 have hrs : rowN m sN = m.rows[sN].2 := by simp [rowN, hes]
 have hrt : rowN m tN = m.rows[tN].2 := by simp [rowN, het]
 generalize m.rows[sN] = r at hes hrs
 generalize m.rows[tN] = q at het hrt
 have hxs : r.2[i]? = some (ex (rowN m sN) i) := by
  rw [hrs] at hls ⊢
  rw [ex, List.getElem?_eq_getElem (by omega)]; rfl
 have hxt : q.2[i]? = some (ex (rowN m tN) i) := by
  rw [hrt] at hlt ⊢
  rw [ex, List.getElem?_eq_getElem (by omega)]; rfl
 have hit : ((i : Int)).toNat = i := Int.toNat_natCast i
 have hbo := fun h => ex_bothW hw hsl htl2 (show i < m.ins.toNat by omega) h
 have hxf := ex_fitsW hw hsl (show i < m.ins.toNat by omega)
 have hyf := ex_fitsW hw htl2 (show i < m.ins.toNat by omega)
 have hcond : condM (iterM m n') (ex (rowN m sN) i) (ex (rowN m tN) i) = decide (i = i0) := by
  by_cases e : i = i0
  ·subst e; rw [j3]; simp
  ·rw [j4 i (by omega)]; simp [e]
 have hnx : i = i0 → ∀ x y, x = ex (rowN m sN) i → y = ex (rowN m tN) i → (acc ++ [(i : Int)]) ++ refW m n' x.1.toNat y.1.toNat = diffW a b ∧ (0 < n' → 0 ≤ x.1 ∧ x.1 < N ∧ 0 ≤ y.1 ∧ y.1 < N ∧ iterM m n' x.1.toNat y.1.toNat = true ∧ iterM m (n' - 1) x.1.toNat y.1.toNat = false) := fun e x y hx hy => by
  subst e
  rw [hx, hy]
  refine ⟨by rw [List.append_assoc]; exact i1, fun h => ?_⟩
  obtain ⟨p, q, e1, e2, e3, e4, e5, e6⟩ := j5 h
  rw [e1, e2, Int.toNat_natCast, Int.toNat_natCast]
  exact ⟨by omega, by omega, by omega, by omega, e5, e6⟩
 have hnx := fun e => hnx e _ _ rfl rfl
 clear j3 j4 j5 i1 j1
 generalize ex (rowN m sN) i = x at hxs hbo hcond hnx hxf
 generalize ex (rowN m tN) i = y at hxt hbo hcond hnx hyf
 refine EvC.seq ?_
 refine EvC.block ?_
 refine EvC.d mixed ?_ (h := by simp only [go_sem, Mach.cells, Int.toNat_natCast, hes, het, hxs, hxt, rowC, edgeC, hit] <;> rfl) (hok := by simp; try omega)
 by_cases ho : x.2 = y.2
 ·have ho' : decide (x.2 = y.2) = true := decide_eq_true ho
  rcases hbo ho with ⟨e1, e2⟩ | ⟨p, u, e1, e2, hp, hu⟩
  ·have d1 : decide (0 ≤ x.1) = false := decide_eq_false (by omega)
   have t1 : x.1.toNat = 0 := by omega
   have t2 : y.1.toNat = 0 := by omega
   have hpg : (List.range N)[0]? = some 0 := List.getElem?_range (by omega)
   have hii : i ≠ i0 := fun e => by
    have : condM (iterM m n') x y = false := by simp [condM, ho, e1]
    rw [this] at hcond; simp [e] at hcond
   refine EvC.d mixed ?_ (h := by simp only [go_sem, ho, ho', d1, decide_not, t1, t2, hpg, mtab_len, mtab, List.getElem?_map, Option.map_some, mrow, boolC, List.length_map, List.length_range] <;> rfl) (hok := by simp; try omega)
   refine EvC.cs ?_ (by simp only [go_sem, ho, d1] <;> rfl)
   refine EvC.b ?_ (hok := by exact inI64_of (by omega) (by omega))
   exact ⟨[(0, 0)], i + 1, rfl, (by simp only [go_sem, Mach.cells, Int.natCast_add, Int.natCast_one] <;> rfl), by omega, by omega⟩
  ·have d1 : decide (0 ≤ x.1) = true := decide_eq_true (by omega)
   have d2 : decide (0 ≤ y.1) = true := decide_eq_true (by omega)
   have hpg : (List.range N)[p]? = some p := List.getElem?_range (by omega)
   have hug : (List.range N)[u]? = some u := List.getElem?_range (by omega)
   obtain ⟨b, hb⟩ : ∃ b, iterM m n' p u = b := ⟨_, rfl⟩
   have hcd : condM (iterM m n') x y = b := by simp [condM, ho, e1, e2, hb]
   have t1 : x.1.toNat = p := by omega
   have t2 : y.1.toNat = u := by omega
   refine EvC.d mixed ?_ (h := by simp only [go_sem, ho, ho', d1, d2, decide_not, t1, t2, hpg, hug, mtab_len, mtab, List.getElem?_map, Option.map_some, mrow, boolC, hb, List.length_map, List.length_range] <;> rfl) (hok := by simp; try omega)
   cases b
   ·have hii : i ≠ i0 := fun e => by rw [hcd] at hcond; simp [e] at hcond
    refine EvC.cs ?_ (by simp only [go_sem, ho, d1, d2, hb] <;> rfl)
    refine EvC.b ?_ (hok := by exact inI64_of (by omega) (by omega))
    exact ⟨[(0, 0)], i + 1, rfl, (by simp only [go_sem, Mach.cells, Int.natCast_add, Int.natCast_one] <;> rfl), by omega, by omega⟩
   ·have hii : i = i0 := by rw [hcd] at hcond; simpa using hcond.symm
    obtain ⟨w1, w2⟩ := hnx hii
    have hee : (acc ++ [(i : Int)]).isEmpty = false := by cases acc <;> rfl
    have hr : room (acc.length + 1) 8 = true := by simp only [room_eq, decide_eq_true_eq]; omega
    refine EvC.ct ?_ (by simp only [go_sem, ho, d1, d2, hb] <;> rfl)
    refine EvC.a ?_ (by simp only [go_sem, List.length_map] <;> rfl) (by simp [hr])
    refine EvC.d mixed ?_
    refine EvC.exit ?_
    exact ⟨[(0, 0)], (n', x.1, y.1, acc ++ [(i : Int)]), rfl, (by simp only [go_sem, Mach.cells, List.map_append, List.map_cons, List.map_nil, intC, List.length_append, hee] <;> rfl), ⟨w1, by simp only [List.length_append, List.length_cons, List.length_nil]; omega, w2⟩, by simp only; omega⟩
 ·have ho' : decide (x.2 = y.2) = false := decide_eq_false ho
  clear hbo
  have hpg : (List.range N)[x.1.toNat]? = some x.1.toNat := List.getElem?_range (by omega)
  have hug : (List.range N)[y.1.toNat]? = some y.1.toNat := List.getElem?_range (by omega)
  have hii : i = i0 := by
   have : condM (iterM m n') x y = true := by simp [condM, ho]
   rw [this] at hcond; simpa using hcond.symm
  obtain ⟨w1, w2⟩ := hnx hii
  have hee : (acc ++ [(i : Int)]).isEmpty = false := by cases acc <;> rfl
  have hr : room (acc.length + 1) 8 = true := by simp only [room_eq, decide_eq_true_eq]; omega
  refine EvC.d mixed ?_ (h := by simp only [go_sem, ho, ho', decide_not, hpg, hug, mtab_len, mtab, List.getElem?_map, Option.map_some, mrow, boolC, List.length_map, List.length_range] <;> rfl) (hok := by simp; try omega)
  refine EvC.ct ?_ (by simp only [go_sem, ho] <;> rfl)
  refine EvC.a ?_ (by simp only [go_sem, List.length_map] <;> rfl) (by simp [hr])
  refine EvC.d mixed ?_
  refine EvC.exit ?_
  exact ⟨[(0, 0)], (n', x.1, y.1, acc ++ [(i : Int)]), rfl, (by simp only [go_sem, Mach.cells, List.map_append, List.map_cons, List.map_nil, intC, List.length_append, hee] <;> rfl), ⟨w1, by simp only [List.length_append, List.length_cons, List.length_nil]; omega, w2⟩, by simp only; omega⟩
instance : DecidableEq FA := fun a b => decidable_of_iff (a.kind = b.kind ∧ a.state = b.state ∧ a.input = b.input ∧ a.to = b.to ∧ a.at' = b.at' ∧ a.out = b.out) ⟨fun h => by obtain ⟨a1, a2, a3, a4, a5, a6⟩ := a; obtain ⟨b1, b2, b3, b4, b5, b6⟩ := b; simp only at h; obtain ⟨rfl, rfl, rfl, rfl, rfl, rfl⟩ := h; rfl, fun h => by subst h; exact ⟨rfl, rfl, rfl, rfl, rfl, rfl⟩⟩
open Go Go.ChangeShapes Go.RowKit
def Live (w : World) : Nat → Nat → Prop := fun b _ => b < w.heap.size
section
variable {H : Type} {enc : TypeId × Value → H} {P : Program} {w : World} {α β : Type}
def Fits (P : Program) (t : TypeId) (d : DataW H) : Prop := ∀ n ∈ d.weights P t, n ≤ reachBytes
theorem fits_all {P : Program} {e : TypeId} : ∀ {l : List (DataW H)}, (∀ n ∈ DataW.weightsAll P e l, n ≤ reachBytes) → ∀ d ∈ l, Fits P e d
 | [], _, d, hd => by cases hd
 | a :: l, h, d, hd => by
   simp only [DataW.weightsAll, List.mem_append] at h
   rcases List.mem_cons.1 hd with rfl | hd
   ·exact fun n hn => h n (.inl hn)
   ·exact fits_all (fun n hn => h n (.inr hn)) d hd
theorem fits_each {P : Program} : ∀ {ts : List TypeId} {l : List (DataW H)}, (∀ n ∈ DataW.weightsEach P ts l, n ≤ reachBytes) → ∀ (i : Nat) t d, ts[i]? = some t → l[i]? = some d → Fits P t d
 | [], _, _, i, t, d, h1, _ => by simp at h1
 | _ :: _, [], _, i, t, d, _, h2 => by simp at h2
 | a :: ts, b :: l, h, i, t, d, h1, h2 => by
   simp only [DataW.weightsEach, List.mem_append] at h
   cases i with
   | zero =>
     simp only [List.getElem?_cons_zero, Option.some.injEq] at h1 h2
     subst h1; subst h2
     exact fun n hn => h n (.inl hn)
   | succ i => exact fits_each (fun n hn => h n (.inr hn)) i t d (by simpa using h1) (by simpa using h2)
def Reads (enc : TypeId × Value → H) (P : Program) (w : World) (t : TypeId) (f : α → List AV) (Ok : α → Prop) : Prop :=
 ∀ fuel cs x, Fits P t x.1 → DataW.trod enc P w 0 (fun _ => true) true fuel t cs = some x →
   ∃ a, Ok a ∧ Imms (Live w) w cs (f a) ∧ ∀ v ∈ cs, v.oneCell' = true
theorem Imms.one {F : Nat → Nat → Prop} {v : Value} {x : AV} (h : Imm F w v x) : Imms F w [v] [x] :=
 ⟨rfl, fun i h1 _ => by have : i = 0 := by simpa using h1
                        subst this; exact h⟩
theorem Imms.append {F : Nat → Nat → Prop} {vs vs' : List Value} {xs xs' : List AV} (h : Imms F w vs xs) (h' : Imms F w vs' xs') : Imms F w (vs ++ vs') (xs ++ xs') := by
 have e := h.1
 have e' := h'.1
 refine ⟨by simp [e, e'], fun i h1 h2 => ?_⟩
 by_cases hi : i < vs.length
 ·rw [List.getElem_append_left hi, List.getElem_append_left (by omega)]; exact h.2 i _ _
 ·rw [List.getElem_append_right (by omega), List.getElem_append_right (by omega)]
  have := h'.2 (i - vs.length) (by simp at h1; omega) (by simp at h2; omega)
  simpa only [e] using this
theorem Reads.mono {t : TypeId} {f : α → List AV} {Ok : α → Prop} {g : β → List AV} {Ok' : β → Prop} (h : Reads enc P w t f Ok) (hq : ∀ a, Ok a → ∃ b, Ok' b ∧ g b = f a) : Reads enc P w t g Ok' :=
 fun fuel cs x hs ht => let ⟨a, h1, h2, h3⟩ := h fuel cs x hs ht; let ⟨b, k1, k2⟩ := hq a h1; ⟨b, k1, by rw [k2]; exact h2, h3⟩
theorem Reads.int {t : TypeId} {k : IntKind} (ht : P.underlying t = some (.int k)) : Reads enc P w t (fun n : Int => [.sc (.int k n)]) (fun n => (Lit.int k n).wf = true) := fun fuel cs x _ h => by
 obtain ⟨n, rfl, rfl, hw⟩ := DataW.trod_int ht h
 exact ⟨n, hw, .one (.sc _), by simp [Value.oneCell']⟩
theorem Reads.bool {t : TypeId} (ht : P.underlying t = some .bool) : Reads enc P w t (fun b : Bool => [.sc (.bool b)]) (fun _ => True) := fun fuel cs x _ h => by
 obtain ⟨b, rfl, rfl⟩ := DataW.trod_bool ht h
 exact ⟨b, trivial, .one (.sc _), by simp [Value.oneCell']⟩
theorem pick {α : Type} {p : Nat → α → Prop} (n : Nat) (h : ∀ i, i < n → ∃ a, p i a) : ∃ l : List α, l.length = n ∧ ∀ i (hi : i < l.length), p i l[i] := by
 induction n with
 | zero => exact ⟨[], rfl, fun i hi => by simp at hi⟩
 | succ n ih =>
   obtain ⟨l, h1, h2⟩ := ih fun i hi => h i (by omega)
   obtain ⟨a, ha⟩ := h n (by omega)
   refine ⟨l ++ [a], by simp [h1], fun i hi => ?_⟩
   by_cases h3 : i < l.length
   ·rw [List.getElem_append_left h3]; exact h2 i h3
   ·have : i = l.length := by simp at hi; omega
    subst this
    rw [List.getElem_append_right (Nat.le_refl _)]
    simpa [h1] using ha
theorem Reads.slice {t e : TypeId} {f : α → List AV} {Ok : α → Prop} (ht : P.underlying t = some (.slice e)) (he : Reads enc P w e f Ok) (hz : ∀ a, (f a).length = P.cellsOf e) (hz0 : 0 < P.cellsOf e) :
  Reads enc P w t (fun x : Bool × List α => [.sl x.1 (x.2.map f) .unk]) (fun x => (∀ y ∈ x.2, Ok y) ∧ (x.1 = true → x.2 = []) ∧ x.2.length * P.bytesOf e ≤ reachBytes) := fun fuel cs x hs h => by
 rcases DataW.trod_slice ht h with ⟨rfl, rfl⟩ | ⟨a, len, cap, elems, rest, n, rfl, rfl, rfl, _, hlc, hcm, hlen, hel, hrest, _⟩
 ·exact ⟨(true, []), ⟨by simp, fun _ => rfl, by simp⟩, .one (.nil _ (.inl rfl)), by simp [Value.oneCell']⟩
 unfold Fits at hs
 simp only [DataW.weights, ht, List.mem_cons, List.mem_append, List.length_map] at hs
 have hbytes : len * P.bytesOf e ≤ reachBytes := by
  have := hs _ (.inl rfl)
  rw [hlen, Nat.add_mul] at this; omega
 have hfit : ∀ i (hi : i < elems.length), Fits P e elems[i].1 := fun i hi =>
  fits_all (l := elems.map (·.1)) (fun n hn => hs n (.inr (.inl hn))) _ (List.mem_map.2 ⟨_, List.getElem_mem hi, rfl⟩)
 by_cases hc0 : cap = 0
 ·have hl0 : len = 0 := by omega
  subst hc0; subst hl0
  exact ⟨(false, []), ⟨by simp, by simp, by simp⟩, .one (.sz a _ (.inl rfl)), by simp [Value.oneCell']⟩
 have hfirst : ∃ v, w.cell? a = some v := by
  have hcells : ∃ cs', w.cells? 0 a (P.cellsOf e) = some cs' := by
   by_cases hl0 : len = 0
   ·subst hl0
    have h1 := (hrest rfl).2 0 (by omega)
    rw [List.getElem?_eq_getElem (by rw [(hrest rfl).1]; omega)] at h1
    obtain ⟨cs', h2, _⟩ := Option.bind_eq_some_iff.1 h1
    refine ⟨cs', ?_⟩
    simpa [Addr.add] using h2
   ·have h1 := hel 0 (by omega)
    rw [List.getElem?_eq_getElem (by omega)] at h1
    obtain ⟨cs', h2, _⟩ := Option.bind_eq_some_iff.1 h1
    refine ⟨cs', ?_⟩
    simpa [Addr.add] using h2
  obtain ⟨cs', h2⟩ := hcells
  obtain ⟨_, q1, q2⟩ := World.cells?_some h2
  have := q2 0 hz0
  rw [List.getElem?_eq_getElem (by omega)] at this
  exact ⟨_, by simpa [Addr.add] using this⟩
 have hsp : a.spot = none := by
  obtain ⟨v, hv⟩ := hfirst
  unfold World.cell? at hv
  cases hsp : a.spot with
  | none => rfl
  | some k =>
    rw [hsp] at hv
    split at hv <;> simp at hv
 obtain ⟨b, off, spt⟩ := a
 cases hsp
 have key : ∀ i, i < len → ∃ y : α, Ok y ∧ ∃ cs', cs'.length = P.cellsOf e ∧ (∀ j (hj : j < cs'.length), w.cell? ⟨b, off + i * P.cellsOf e + j, none⟩ = some cs'[j]) ∧ Imms (Live w) w cs' (f y) ∧ ∀ v ∈ cs', v.oneCell' = true := fun i hi => by
  have h1 := hel i hi
  rw [List.getElem?_eq_getElem (by omega)] at h1
  obtain ⟨cs', h2, h3⟩ := Option.bind_eq_some_iff.1 h1
  obtain ⟨y, k1, k2, k3⟩ := he _ _ _ (hfit i (by omega)) h3
  obtain ⟨_, q1, q2⟩ := World.cells?_some h2
  refine ⟨y, k1, cs', q1, fun j hj => ?_, k2, k3⟩
  have := q2 j (by omega)
  rw [List.getElem?_eq_getElem hj] at this
  rw [← this]
  congr 1
  unfold Addr.add
  by_cases e1 : i * P.cellsOf e = 0
  ·rw [if_pos e1]
   by_cases e2 : j = 0
   ·subst e2; simp [e1]
   ·rw [if_neg e2]; simp [e1]
  ·rw [if_neg e1]
   by_cases e2 : j = 0
   ·subst e2; simp
   ·rw [if_neg e2]
 obtain ⟨l, hl, hp⟩ := pick len key
 refine ⟨(false, l), ⟨fun y hy => ?_, by simp, by rw [hl]; exact hbytes⟩, .one ?_, by simp [Value.oneCell']⟩
 ·obtain ⟨i, hi, rfl⟩ := List.getElem_of_mem hy
  exact (hp i hi).1
 ·
  have hcell : ∀ i j, i < len → j < P.cellsOf e → ∃ v, w.cell? ⟨b, off + i * P.cellsOf e + j, none⟩ = some v ∧ v.oneCell' = true ∧ ∀ (h : i < l.length) (h' : j < (f l[i]).length), Imm (Live w) w v (f l[i])[j] := fun i j hi hj => by
   obtain ⟨_, cs', q1, q2, q3, q4⟩ := hp i (by omega)
   exact ⟨cs'[j], q2 j (by omega), q4 _ (List.getElem_mem _), fun h h' => q3.2 j (by omega) h'⟩
  have hv := fun i j => show ∃ v, i < len → j < P.cellsOf e → w.cell? ⟨b, off + i * P.cellsOf e + j, none⟩ = some v ∧ v.oneCell' = true ∧ ∀ (h : i < l.length) (h' : j < (f l[i]).length), Imm (Live w) w v (f l[i])[j] from by
   by_cases h : i < len ∧ j < P.cellsOf e
   ·obtain ⟨v, hv⟩ := hcell i j h.1 h.2; exact ⟨v, fun _ _ => hv⟩
   ·exact ⟨undef, fun h1 h2 => absurd ⟨h1, h2⟩ h⟩
  have hvs : ∀ i j, ∃ v, v = Classical.choose (hv i j) := fun i j => ⟨_, rfl⟩
  have e0 : (l.map f).length = len := by simp [hl]
  have := Imm.sl (F := Live w) (w := w) b off cap (P.cellsOf e) (l.map f) .unk (fun i j => Classical.choose (hv i j)) (by rw [e0]; exact hlc) (.inl rfl) (fun i hi => by rw [List.getElem_map]; exact hz _)
   (fun i j hi hj => by
    obtain ⟨k1, k2, _⟩ := Classical.choose_spec (hv i j) (by rw [← e0]; exact hi) hj
    refine ⟨?_, k1, k2⟩
    unfold World.cell? at k1
    show b < w.heap.size
    cases hb : w.heap[b]? with
    | none => simp [hb] at k1
    | some o => exact (Array.getElem?_eq_some_iff.1 hb).1)
   (fun i j h h' => by
    have h'2 := h'
    rw [List.getElem_map, hz] at h'2
    have := (Classical.choose_spec (hv i j) (by rw [← e0]; exact h) h'2).2.2 (by simpa using h) (by rw [hz]; exact h'2)
    simpa only [List.getElem_map] using this)
  rw [e0] at this
  exact this
def RdF (enc : TypeId × Value → H) (P : Program) (w : World) (L : List Field) (k tot : Nat) (f : α → List AV) (Ok : α → Prop) : Prop :=
 ∀ (n : Nat) (cs : List Value), cs.length = tot → (∀ fd ∈ L, ∃ y, DataW.trod enc P w 0 (fun _ => true) true n fd.type ((cs.drop fd.offset).take (P.cellsOf fd.type)) = some y ∧ Fits P fd.type y.1) →
   ∃ a, Ok a ∧ Imms (Live w) w (cs.drop k) (f a) ∧ ∀ v ∈ cs.drop k, v.oneCell' = true
theorem RdF.nil {tot : Nat} : RdF enc P w [] tot tot (fun _ : Unit => []) (fun _ => True) := fun n cs hl _ => by
 have : cs.drop tot = [] := by rw [List.drop_eq_nil_iff]; omega
 rw [this]
 exact ⟨(), trivial, ⟨rfl, fun i h => by simp at h⟩, by simp⟩
theorem RdF.cons {fd : Field} {fs : List Field} {k k' sz tot : Nat} {f : α → List AV} {Ok : α → Prop} {g : β → List AV} {Ok' : β → Prop} (ho : fd.offset = k) (hz : P.cellsOf fd.type = sz) (hk : k + sz = k')
  (h : Reads enc P w fd.type f Ok) (hs : RdF enc P w fs k' tot g Ok') : RdF enc P w (fd :: fs) k tot (fun x : α × β => f x.1 ++ g x.2) (fun x => Ok x.1 ∧ Ok' x.2) := fun n cs hl hf => by
 obtain ⟨y, hy, hyf⟩ := hf fd List.mem_cons_self
 obtain ⟨a, h1, h2, h3⟩ := h _ _ _ hyf hy
 obtain ⟨b, k1, k2, k3⟩ := hs n cs hl fun fd' h' => hf fd' (List.mem_cons_of_mem _ h')
 have e : cs.drop k = (cs.drop k).take sz ++ cs.drop k' := by
  rw [← hk, ← List.drop_drop, List.take_append_drop]
 rw [ho, hz] at h2 h3
 refine ⟨(a, b), ⟨h1, k1⟩, by rw [e]; exact h2.append k2, fun v hv => ?_⟩
 rw [e, List.mem_append] at hv
 rcases hv with hv | hv
 ·exact h3 v hv
 ·exact k3 v hv
theorem Reads.struct {t : TypeId} {fs : Array Field} {tot : Nat} {f : α → List AV} {Ok : α → Prop} (ht : P.underlying t = some (.struct fs)) (hz : P.cellsOf t = tot) (h : RdF enc P w fs.toList 0 tot f Ok) : Reads enc P w t f Ok := fun fuel cs x hs hx => by
 obtain ⟨xs, n, _, rfl, hl, hlen, hf⟩ := DataW.trod_struct ht hx
 unfold Fits at hs
 simp only [DataW.weights, ht] at hs
 obtain ⟨a, h1, h2, h3⟩ := h n cs (hl.trans hz) fun fd hfd => by
  obtain ⟨i, hi, rfl⟩ := List.getElem_of_mem hfd
  have := hf i fs.toList[i] (by simp)
  have hix : i < xs.length := by simp at hi; omega
  rw [List.getElem?_eq_getElem hix] at this
  exact ⟨_, this, fits_each hs i _ _ (by rw [List.getElem?_map, List.getElem?_eq_getElem hi]; rfl) (by rw [List.getElem?_map, List.getElem?_eq_getElem hix]; rfl)⟩
 exact ⟨a, h1, by simpa using h2, by simpa using h3⟩
theorem arr_go {sz : Nat} {f : α → List AV} {Ok : α → Prop} : ∀ (n : Nat) (cs : List Value), cs.length = n * sz →
  (∀ i, i < n → ∃ a, Ok a ∧ Imms (Live w) w ((cs.drop (i * sz)).take sz) (f a) ∧ ∀ v ∈ (cs.drop (i * sz)).take sz, v.oneCell' = true) →
  ∃ l : List α, l.length = n ∧ (∀ a ∈ l, Ok a) ∧ Imms (Live w) w cs (l.map f).flatten ∧ ∀ v ∈ cs, v.oneCell' = true
 | 0, cs, hl, _ => by
   have : cs = [] := by cases cs with
    | nil => rfl
    | cons a l => simp at hl
   subst this
   exact ⟨[], rfl, by simp, ⟨rfl, fun i h => by simp at h⟩, by simp⟩
 | n + 1, cs, hl, h => by
   obtain ⟨a, h1, h2, h3⟩ := h 0 (by omega)
   obtain ⟨l, k1, k2, k3, k4⟩ := arr_go (sz := sz) n (cs.drop sz) (by rw [List.length_drop, hl, Nat.add_mul]; omega) fun i hi => by
    have := h (i + 1) (by omega)
    rwa [List.drop_drop, show sz + i * sz = (i + 1) * sz by rw [Nat.add_mul]; omega]
   simp only [Nat.zero_mul, List.drop_zero] at h2 h3
   have e := List.take_append_drop sz cs
   refine ⟨a :: l, by simp [k1], fun b hb => ?_, ?_, fun v hv => ?_⟩
   ·rcases List.mem_cons.1 hb with rfl | hb
    ·exact h1
    ·exact k2 b hb
   ·rw [← e]; simpa using h2.append k3
   ·rw [← e, List.mem_append] at hv
    rcases hv with hv | hv
    ·exact h3 v hv
    ·exact k4 v hv
theorem Reads.array {t e : TypeId} {n sz : Nat} {f : α → List AV} {Ok : α → Prop} (ht : P.underlying t = some (.array n e)) (hz : P.cellsOf e = sz) (ha : P.cellsOf t = n * sz) (h : Reads enc P w e f Ok) :
  Reads enc P w t (fun l : List α => (l.map f).flatten) (fun l => l.length = n ∧ ∀ a ∈ l, Ok a) := fun fuel cs x hs hx => by
 obtain ⟨xs, m, _, rfl, hl, hlen, hf⟩ := DataW.trod_array ht hx
 rw [ha] at hl
 rw [hz] at hf
 unfold Fits at hs
 simp only [DataW.weights, ht] at hs
 obtain ⟨l, h1, h2, h3, h4⟩ := arr_go n cs hl fun i hi => by
  have := hf i hi
  rw [List.getElem?_eq_getElem (by omega)] at this
  exact h _ _ _ (fits_all hs _ (List.mem_map.2 ⟨_, List.getElem_mem _, rfl⟩)) this
 exact ⟨l, ⟨h1, h2⟩, h3, h4⟩
theorem Reads.imm_struct {t : TypeId} {fs : Array Field} {f : α → List AV} {Ok : α → Prop} {r : Reach} {b0 : Nat} {v : Value} {d : DataW H} {ps : List MemPlace} (ht : P.underlying t = some (.struct fs)) (h : Reads enc P w t f Ok)
  (hv : Value.okWide P w r b0 t v) (hw : Fits P t d) (hd : DataW.Trod enc P w 0 (fun _ => true) true t v d ps) : ∃ a, Ok a ∧ Imm (Live w) w v (.ag (f a)) := by
 obtain ⟨cs, rfl, _⟩ := WideShapes.okWide_struct ht hv
 obtain ⟨fuel, hd⟩ := hd
 obtain ⟨a, h1, h2, _⟩ := h _ _ _ hw hd
 refine ⟨a, h1, ?_⟩
 have : (Value.agg cs) = .agg cs.toList.toArray := by simp
 rw [this]
 exact .ag _ _ h2.1 h2.2
theorem Reads.imm_slice {t e : TypeId} {f : α → AV} {Ok : α → Prop} {r : Reach} {b0 : Nat} {v : Value} {d : DataW H} {ps : List MemPlace} (ht : P.underlying t = some (.slice e)) (h : Reads enc P w t (fun a => [f a]) Ok)
  (hv : Value.okWide P w r b0 t v) (hw : Fits P t d) (hd : DataW.Trod enc P w 0 (fun _ => true) true t v d ps) : ∃ a, Ok a ∧ Imm (Live w) w v (f a) := by
 have hc : v.cells = #[v] := by
  simp only [Value.okWide, ht, Cell.okWide] at hv
  cases v <;> simp_all [Cell.ok, Value.cells]
 obtain ⟨fuel, hd⟩ := hd
 obtain ⟨a, h1, h2, _⟩ := h _ _ _ hw hd
 rw [hc] at h2
 exact ⟨a, h1, h2.2 0 (by simp) (by simp)⟩
theorem Grown.below {F F' : Nat → Nat → Prop} {w' : World} (g : Avl.Grown F w F' w') : Below w.heap.size w w' := ⟨g.kept.os, g.kept.tape, g.kept.output, g.size, g.old⟩
theorem trodAll_stays (hl : laidOutB P = true) {w' : World} (hb : Below w.heap.size w w') {spf : Nat → Bool} : ∀ {ts : List TypeId} {vs : List Value} {ds : List (DataW H)} {ps : List MemPlace}, (∀ t ∈ ts, P.readableRec t = true ∧ t < P.types.size) →
  DataW.TrodAll enc P w 0 (fun _ => true) true ts vs ds ps → (∀ p ∈ ps, p.block < w.heap.size) → (∀ p ∈ ps, spf p.block = true) → DataW.TrodAll enc P w' 0 spf true ts vs ds ps
 | [], [], [], _, _, h, _, _ => h
 | t :: ts, v :: vs, d :: ds, _, hr, ⟨p, q, h1, h2, e⟩, hlt, hsp => by
   subst e
   refine ⟨p, q, ?_, trodAll_stays hl hb (fun t ht => hr t (List.mem_cons_of_mem _ ht)) h2 (fun x hx => hlt x (List.mem_append_right _ hx)) fun x hx => hsp x (List.mem_append_right _ hx), rfl⟩
   have := hr t List.mem_cons_self
   exact WideElems.Trod_stays hl this.1 this.2 h1 (fun x hx => hb.same (hlt x (List.mem_append_left _ hx))) fun x hx => hsp x (List.mem_append_left _ hx)
 | [], _ :: _, _, _, _, h, _, _ => h.elim
 | [], [], _ :: _, _, _, h, _, _ => h.elim
 | _ :: _, [], _, _, _, h, _, _ => h.elim
 | _ :: _, _ :: _, [], _, _, h, _, _ => h.elim
theorem law_calls {f : FuncId} {fn : Func} {s : ChangeSpec} {apart fresh handsOn again : Bool} {args : Array Value} {avs : List AV} {ds : List (DataW H)} {before : List MemPlace} {tb : TypeId}
  (hl : laidOutB P = true) (hrd : (fn.params.toList.all fun t => P.readableRec t && decide (t < P.types.size)) = true) (hrt : fn.resultTypes = #[tb]) (htb : P.underlying tb = some .bool) (hvars : s.vars = [])
  (hs : s.fn H (ds ++ []) = { results := [.lit (.bool true)], args := ds })
  (h : PureIs P f avs (.sc (.bool true))) (hi : Imms (Live w) w args.toList avs) (hW : DataW.Whole enc P fn.params.toList s.vars apart w args.toList ds [] before) (hgl : Globs (Live w) w := by exact fun g vs hg => by cases hg) :
  Calls P f args w fun e W' => ∃ v, e = .returned v ∧ s.post enc P fn apart fresh handsOn again w args v W' := by
 have hW' := hW
 obtain ⟨p, q, hA, hV, rfl, hfz, hnd⟩ := hW
 rw [hvars] at hV
 obtain ⟨_, rfl⟩ := trodVars_none hV
 have hc := callsIn_wide.1 (h.2 (Live w) w args.toList ⟨fun _ _ h => h, hgl⟩ hi)
 rw [Array.toArray_toList] at hc
 refine hc.mono fun e W' ⟨v, F', he, hr, g⟩ => ?_
 have hv : v = .bool true := by cases hr; rfl
 subst hv
 have hb := Grown.below g
 refine ⟨_, he, post_of_same (pa := p) (pv := []) (by simpa using hW') (fun _ _ _ => ?_) (fun sp hsp => ?_) (fun _ _ => ?_) (by simp) (hb.frame _) g.kept.froz ?_⟩
 ·rw [hs, hrt]; exact trodAll_mk1 (shut_bool htb true)
 ·rw [hs]
  refine trodAll_stays hl hb (fun t ht => ?_) hA (fun x hx => hW'.lt x (by simpa using hx)) fun x hx => hsp x (by simpa using hx)
  have := List.all_eq_true.1 hrd t ht
  simpa using this
 ·rw [hvars, hs]; exact rfl
 ·exact ok_one hrt rfl (okWide_bool_mk htb true)
end
open Go Go.Proofs
end Go.Avl
namespace Go.Proofs.YtmmcendgdcmlkaaDoor
open Go Go.Avl Go.Proofs Go.ChangeShapes Go.RowKit
theorem Tryd.own : ownKnob Tryd.prog.godebug = none := by kernel_rfl
theorem Tryd.laidOut : laidOutB Tryd.prog = true := by kernel_rfl
abbrev laidT : List (String × DataW Unit) := [("gauntlet/faults.table", Rows.laid_gauntlet_faults_table)]
section
variable {H : Type} {enc : TypeId × Value → H} {w : World}
theorem u8wf {n : Int} (h : (Lit.int .u8 n).wf = true) : 0 ≤ n ∧ n < 256 := by
 simp [Lit.wf, IntKind.min, IntKind.max, IntKind.signed, IntKind.bits] at h
 omega
theorem len_of {n b : Nat} (hb : 1 ≤ b) (h : n * b ≤ reachBytes) : (n : Int) ≤ 140737488355328 := by
 have h1 : n * 1 ≤ n * b := Nat.mul_le_mul_left n hb
 have h2 : reachBytes ≤ 140737488355328 := by decide
 omega
theorem rd_u8 : Reads enc Tryd.prog w 5 u8C (fun n => 0 ≤ n ∧ n < 256) := (Reads.int (by kernel_rfl)).mono fun a h => ⟨a, u8wf h, rfl⟩
theorem u16wf {n : Int} (h : (Lit.int .u16 n).wf = true) : 0 ≤ n ∧ n < 65536 := by
 simp [Lit.wf, IntKind.min, IntKind.max, IntKind.signed, IntKind.bits] at h
 omega
theorem rd_u16 : Reads enc Tryd.prog w 25 u16C (fun n => 0 ≤ n ∧ n < 65536) := (Reads.int (by kernel_rfl)).mono fun a h => ⟨a, u16wf h, rfl⟩
theorem rd_u16s : Reads enc Tryd.prog w 22 (fun x : Bool × List Int => [.sl x.1 (x.2.map u16C) .unk]) (fun x => (∀ e ∈ x.2, 0 ≤ e ∧ e < 65536) ∧ (x.2.length : Int) ≤ 140737488355328) :=
 (Reads.slice (by kernel_rfl) rd_u16 (fun a => by rw [show Program.cellsOf Tryd.prog 25 = 1 by kernel_rfl]; rfl) (by rw [show Program.cellsOf Tryd.prog 25 = 1 by kernel_rfl]; exact Nat.succ_pos _)).mono fun a h => ⟨a, ⟨h.1, len_of (b := Program.bytesOf Tryd.prog 25) (by decide +kernel) h.2.2⟩, rfl⟩
theorem rd_LM : Reads enc Tryd.prog w 24 LM.cells LM.Ok := by
 have := (Reads.struct (enc := enc) (w := w) (tot := 5) Tryd.underlying24 (by kernel_rfl) (.cons (sz := 1) rfl (by kernel_rfl) rfl rd_u8 (.cons (sz := 1) rfl (by kernel_rfl) rfl rd_u8 (.cons (sz := 1) rfl (by kernel_rfl) rfl rd_u8 (.cons (sz := 1) rfl (by kernel_rfl) rfl (Reads.bool Tryd.underlying4)
  (.cons (sz := 1) rfl (by kernel_rfl) rfl rd_u16s .nil))))))
 exact this.mono fun a h => ⟨⟨a.1, a.2.1, a.2.2.1, a.2.2.2.1, a.2.2.2.2.1.1, a.2.2.2.2.1.2, .unk⟩, ⟨h.1.1, h.2.1.1, h.2.2.1.1, h.2.2.2.2.1.1⟩, rfl⟩
end
theorem gTable : Tryd.prog.globalNamed "gauntlet/faults.table" = some 0 := by kernel_rfl
theorem tTable : (Tryd.prog.globals[0]?).map (·.type) = some 139 := by kernel_rfl
theorem string_eq {s t : ByteArray} (h : s.data.toList = t.data.toList) : s = t := by
 obtain ⟨⟨l⟩⟩ := s; obtain ⟨⟨k⟩⟩ := t
 simp only at h
 rw [h]
set_option maxRecDepth 100000 in
theorem kind_cells {W : World} {m : Nat} {cs : List Value} {n : List UInt8} {a b c : Bool} {ps : List MemPlace} (h : DataW.trod (fun _ => ()) Tryd.prog W 0 (fun _ => true) false m 138 cs = some (.agg [.lit (.string n), .lit (.bool a), .lit (.bool b), .lit (.bool c)], ps)) :
  cs = [kindN n, .bool a, .bool b, .bool c] := by
 obtain ⟨xs, k, _, he, hl, hlen, hf⟩ := DataW.trod_struct Tryd.underlying138 h
 have hl4 : cs.length = 4 := hl.trans (by kernel_rfl)
 match cs, hl4 with
 | [c0, c1, c2, c3], _ =>
   have h0 : DataW.trod (fun _ => ()) Tryd.prog W 0 (fun _ => true) false k 9 (([c0, c1, c2, c3].drop 0).take (Program.cellsOf Tryd.prog 9)) = xs[0]? := hf 0 _ rfl
   have h1 : DataW.trod (fun _ => ()) Tryd.prog W 0 (fun _ => true) false k 4 (([c0, c1, c2, c3].drop 1).take (Program.cellsOf Tryd.prog 4)) = xs[1]? := hf 1 _ rfl
   have h2 : DataW.trod (fun _ => ()) Tryd.prog W 0 (fun _ => true) false k 4 (([c0, c1, c2, c3].drop 2).take (Program.cellsOf Tryd.prog 4)) = xs[2]? := hf 2 _ rfl
   have h3 : DataW.trod (fun _ => ()) Tryd.prog W 0 (fun _ => true) false k 4 (([c0, c1, c2, c3].drop 3).take (Program.cellsOf Tryd.prog 4)) = xs[3]? := hf 3 _ rfl
   have e9 : Program.cellsOf Tryd.prog 9 = 1 := by kernel_rfl
   have e4 : Program.cellsOf Tryd.prog 4 = 1 := by kernel_rfl
   simp only [e9, e4, List.drop_zero, List.drop_succ_cons, List.take_succ_cons, List.take_zero] at h0 h1 h2 h3
   match xs, hlen with
   | [x0, x1, x2, x3], _ =>
     simp only [Prod.mk.injEq, DataW.agg.injEq, List.map_cons, List.map_nil, List.cons.injEq, and_true] at he
     obtain ⟨⟨e0, e1, e2, e3⟩, _⟩ := he
     obtain ⟨s, q0, r0, _⟩ := DataW.trod_string Tryd.underlying9 h0
     obtain ⟨b1, q1, r1⟩ := DataW.trod_bool Tryd.underlying4 h1
     obtain ⟨b2, q2, r2⟩ := DataW.trod_bool Tryd.underlying4 h2
     obtain ⟨b3, q3, r3⟩ := DataW.trod_bool Tryd.underlying4 h3
     rw [r0] at e0; rw [r1] at e1; rw [r2] at e2; rw [r3] at e3
     simp only [DataW.lit.injEq, Lit.string.injEq, Lit.bool.injEq] at e0 e1 e2 e3
     simp only [List.cons.injEq, and_true] at q0 q1 q2 q3
     subst q0 q1 q2 q3 e1 e2 e3
     have : s = ⟨n.toArray⟩ := string_eq (by simpa using e0.symm)
     rw [this]; rfl
set_option maxRecDepth 100000 in
theorem globs_of {W : World} (h : laidMetH Tryd.prog laidT W) : Globs (Live W) W := by
 rw [MakeChecks.laidMetH_plain _ _ _ (by kernel_rfl)] at h
 obtain ⟨ps, ⟨g, t, cs, fuel, p, q, hg, ht, hvar, hd, _, _⟩, _, _⟩ := h
 obtain rfl := Option.some.inj (gTable.symm.trans hg)
 obtain rfl := Option.some.inj (tTable.symm.trans ht)
 obtain ⟨xs, m, _, he, hl, hlen, hf⟩ := DataW.trod_array Tryd.underlying139 hd
 have e138 : Program.cellsOf Tryd.prog 138 = 4 := by kernel_rfl
 have hl20 : cs.toList.length = 20 := hl.trans (by kernel_rfl)
 have hcs : cs.toList = kindTab := by
  rw [e138] at hf
  match xs, hlen with
  | [x0, x1, x2, x3, x4], _ =>
    have h0 := hf 0 (by decide)
    have h1 := hf 1 (by decide)
    have h2 := hf 2 (by decide)
    have h3 := hf 3 (by decide)
    have h4 := hf 4 (by decide)
    simp only [Rows.laid_gauntlet_faults_table, Prod.mk.injEq, DataW.agg.injEq, List.map_cons, List.map_nil, List.cons.injEq, and_true] at he
    obtain ⟨⟨e0, e1, e2, e3, e4⟩, _⟩ := he
    obtain ⟨d0, p0⟩ := x0
    obtain ⟨d1, p1⟩ := x1
    obtain ⟨d2, p2⟩ := x2
    obtain ⟨d3, p3⟩ := x3
    obtain ⟨d4, p4⟩ := x4
    simp only at e0 e1 e2 e3 e4
    subst e0 e1 e2 e3 e4
    have k0 := kind_cells h0
    have k1 := kind_cells h1
    have k2 := kind_cells h2
    have k3 := kind_cells h3
    have k4 := kind_cells h4
    have key : cs.toList = (cs.toList.drop (0 * 4)).take 4 ++ ((cs.toList.drop (1 * 4)).take 4 ++ ((cs.toList.drop (2 * 4)).take 4 ++ ((cs.toList.drop (3 * 4)).take 4 ++ (cs.toList.drop (4 * 4)).take 4))) := by
     have e : (cs.toList.drop (4 * 4)).take 4 = cs.toList.drop (4 * 4) := List.take_of_length_le (by rw [List.length_drop, hl20]; decide)
     rw [e]
     have s : ∀ k, cs.toList.drop (k * 4) = (cs.toList.drop (k * 4)).take 4 ++ cs.toList.drop ((k + 1) * 4) := fun k => by
      rw [show (k + 1) * 4 = k * 4 + 4 by omega, ← List.drop_drop, List.take_append_drop]
     have z : cs.toList = cs.toList.drop (0 * 4) := by simp
     exact z.trans ((s 0).trans (congrArg _ ((s 1).trans (congrArg _ ((s 2).trans (congrArg _ ((s 3).trans (congrArg _ rfl))))))))
    rw [k0, k1, k2, k3, k4] at key
    rw [key]; rfl
 intro g vs hgv j hj
 match g, hgv with
 | 0, hgv =>
   have hgv : kindTab = vs := by simpa [laidAt] using hgv
   subst hgv
   have hc := World.var?_cell gTable hvar j
   have : cs[j]? = some kindTab[j] := by rw [← Array.getElem?_toList, hcs, List.getElem?_eq_getElem hj]
   rw [this] at hc
   refine ⟨?_, hc⟩
   unfold World.cell? at hc
   show 0 < W.heap.size
   cases hb : W.heap[0]? with
   | none => simp [hb] at hc
   | some o => exact (Array.getElem?_eq_some_iff.1 hb).1
theorem door_met (os : Os) (args : Array Value) : laidMetH Tryd.prog laidT ((World.doorLaid Tryd.prog 400 os).forCall (fun _ _ => 0) ⟨#[], args, []⟩).memory :=
 laidMetH_of_parts3 (fuel := 8) (laidMet_of_run' 8 (by kernel_rfl) (by kernel_rfl)) (by kernel_rfl) (by kernel_rfl)
end Go.Proofs.YtmmcendgdcmlkaaDoor
namespace Go.Avl
open Go Go.Proofs.Tryd
set_option maxRecDepth 10000
theorem orI_is (nl : Bool) (xs : List Int) (c : Cp) (hl : xs.length < 1000000) : PureIs prog 74 [.sl nl (xs.map intC) c] (.sc (.int .i64 (orR xs))) := by
 refine PureIs.of1 6 [6, 7, 8, 9, 14] func74 ntmps74 results74 fun _ => ?_
 refine EvC.seq (EvC.rg (by simp only [go_sem] <;> rfl) rfl ?_)
 refine EvC.seq (EvC.rg (by simp only [go_sem] <;> rfl) rfl ?_)
 refine EvC.seq ?_
 refine EvC.seq (EvC.rg (by simp only [go_sem] <;> rfl) rfl ?_)
 refine EvC.block (EvC.loopS (σ := Nat) (fun i => ⟨[(3, .sc (.int .i64 0)), (6, .sl nl (xs.map intC) c), (7, .sc (.int .i64 xs.length)), (8, .sc (.int .i64 i))], [], [], 0⟩) (fun i => xs.length - i) (fun i => i ≤ xs.length ∧ orR xs = orR (xs.drop i)) [3, 6, 7, 8] 0 ?_ ?_)
 ·refine ⟨[], 0, rfl, (by simp only [go_sem] <;> rfl), Nat.zero_le _, by simp⟩
 rintro i ⟨h1, h2⟩
 refine EvC.seq (EvC.rg (by simp only [go_sem] <;> rfl) rfl ?_)
 refine EvC.seq (EvC.cond (by simp only [go_sem] <;> rfl) (fun hc => ?_) (fun hc => ?_))
 ·refine EvC.skip ?_
  have hi : i < xs.length := by simpa using hc
  have he : xs[i]? = some xs[i] := List.getElem?_eq_getElem hi
  generalize xs[i] = e at he
  have hd : xs.drop i = e :: xs.drop (i + 1) := by
   rw [List.drop_eq_getElem_cons hi]; congr 1; rw [List.getElem?_eq_getElem hi] at he; simpa using he
  refine EvC.seq ?_
  refine EvC.block (EvC.seq (EvC.rg (by simp only [go_sem, he, intC] <;> rfl) (by simp) ?_))
  refine EvC.a ?_
  refine EvC.cond (by simp only [go_sem] <;> rfl) (fun hc1 => ?_) (fun hc1 => ?_)
  ·refine EvC.seq (EvC.rg (by simp only [go_sem] <;> rfl) rfl ?_)
   refine EvC.rz ?_
   simp only [go_sem]
   rw [h2, hd, orR, if_pos (by simpa using hc1)]
  refine EvC.skip ?_
  refine EvC.rg (by simp only [go_sem] <;> rfl) ?_ ?_
  ·exact inI64_of (by omega) (by omega)
  refine ⟨[], i + 1, rfl, (by simp only [go_sem] <;> rfl), ⟨by omega, ?_⟩, by omega⟩
  rw [h2, hd, orR, if_neg (by simpa using hc1)]
 ·refine EvC.exit ?_
  have hi : ¬ i < xs.length := by simpa using hc
  refine EvC.seq (EvC.rg (by simp only [go_sem] <;> rfl) rfl ?_)
  refine EvC.rz ?_
  simp only [go_sem]
  rw [h2, List.drop_of_length_le (by omega)]; rfl
theorem isNaN_is (a : Int) : PureIs prog 104 [.sc (.int .i64 a)] (.sc (.bool false)) := by
 refine PureIs.of1 1 [2] func104 ntmps104 results104 fun _ => ?_
 refine EvC.a ?_
 refine EvC.a ?_
 refine EvC.rz ?_
 simp only [go_sem]
def cmpJ (a b : Int) : Int := if a < b then -1 else if b < a then 1 else 0
theorem compareI_is (a b : Int) : PureIs prog 75 [.sc (.int .i64 a), .sc (.int .i64 b)] (.sc (.int .i64 (cmpJ a b))) := by
 refine PureIs.of1 2 [4, 5, 6, 11, 12, 13, 16, 19] func75 ntmps75 results75 fun _ => ?_
 refine EvC.a ?_
 refine EvC.k1 ?_ (c1 := .ca (isNaN_is a))
 refine EvC.k1 ?_ (c1 := .ca (isNaN_is b))
 refine EvC.seq ?_
 refine EvC.a ?_
 refine EvC.cs ?_
 refine EvC.seq ?_
 refine EvC.a ?_
 refine EvC.cs ?_
 refine EvC.seq ?_
 refine EvC.a ?_
 unfold cmpJ
 by_cases h1 : a < b
 ·refine EvC.ct ?_ (by simp only [go_sem, decide_eq_true h1] <;> rfl)
  rw [if_pos h1]
  refine EvC.a ?_
  refine EvC.rz ?_
  simp only [go_sem]
 refine EvC.cs ?_ (by simp only [go_sem, decide_eq_false h1] <;> rfl)
 rw [if_neg h1]
 refine EvC.seq ?_
 refine EvC.a ?_
 by_cases h2 : b < a
 ·refine EvC.ct ?_ (by simp only [go_sem, decide_eq_true h2] <;> rfl)
  rw [if_pos h2]
  refine EvC.a ?_
  refine EvC.rz ?_
  simp only [go_sem]
 refine EvC.cs ?_ (by simp only [go_sem, decide_eq_false h2] <;> rfl)
 rw [if_neg h2]
 refine EvC.a ?_
 refine EvC.rz ?_
 simp only [go_sem]
def edgeI (f g : FA) : Int := orR [cmpJ f.state g.state, cmpJ f.input g.input]
theorem edge_is (f g : FA) : PureIs prog 44 [.ag f.cells, .ag g.cells] (.sc (.int .i64 (edgeI f g))) := by
 have q := orI_is false [cmpJ f.state g.state, cmpJ f.input g.input] .full (by simp)
 simp only [List.map_cons, List.map_nil, intC] at q
 rw [FA.cells, FA.cells]
 refine PureIs.of1 5 [] func44 ntmps44 results44 fun _ => ?_
 refine EvC.a ?_
 refine EvC.z 0 ?_
 refine EvC.z 1 ?_
 apply EvC.seq
 apply EvC.drw mixed
 ·apply Tr.run
  ·simp only [go_sem] <;> rfl
  ·simp
  apply Tr.cons
  ·exact .ca (compareI_is f.state g.state)
  apply Tr.run
  ·simp only [go_sem] <;> rfl
  ·simp
  apply Tr.cons
  ·exact .ca (compareI_is f.input g.input)
  apply Tr.run
  ·simp only [go_sem] <;> rfl
  ·simp
  apply Tr.cons
  ·exact .ca q
  apply Tr.done
  ·simp only [go_sem] <;> rfl
  ·simp
 ·kernel_rfl
 refine EvC.rz ?_
 simp only [go_sem]
 rfl
def ltE (f g : FA) : Bool := decide (f.state < g.state) || (decide (f.state = g.state) && decide (f.input < g.input))
theorem edgeI_lt (f g : FA) : decide (edgeI f g < 0) = ltE f g := by
 have key : edgeI f g < 0 ↔ f.state < g.state ∨ f.state = g.state ∧ f.input < g.input := by
  simp only [edgeI, orR, cmpJ]
  by_cases h1 : f.state < g.state
  ·simp [h1]
  by_cases h2 : g.state < f.state
  ·simp [h1, h2, show ¬ f.state = g.state by omega]
  have h3 : f.state = g.state := by omega
  by_cases h4 : f.input < g.input
  ·simp [h3, h4]
  by_cases h5 : g.input < f.input
  ·simp [h3, h4, h5]
  ·simp [h3, h4, h5]
 rw [Bool.eq_iff_iff]
 simp only [decide_eq_true_eq, ltE, Bool.or_eq_true, Bool.and_eq_true]
 exact key
def leE (f g : FA) : Bool := !ltE g f
def atE (s i : Int) (f : FA) : Bool := decide (f.state = s) && decide (f.input = i)
def SrtE (l : List FA) : Prop := l.Pairwise fun f g => leE f g = true
theorem ltE_iff {f g : FA} : ltE f g = true ↔ f.state < g.state ∨ f.state = g.state ∧ f.input < g.input := by
 simp [ltE]
theorem leE_iff {f g : FA} : leE f g = true ↔ f.state < g.state ∨ f.state = g.state ∧ f.input ≤ g.input := by
 rw [leE, Bool.not_eq_true', ← Bool.not_eq_true, ltE_iff]
 omega
theorem leE_not {f g : FA} : leE f g = false ↔ ltE g f = true := by rw [leE, Bool.not_eq_false']
theorem leE_refl (f : FA) : leE f f = true := leE_iff.2 (by omega)
theorem leE_trans {f g h : FA} (h1 : leE f g = true) (h2 : leE g h = true) : leE f h = true := by
 rw [leE_iff] at *; omega
theorem leE_of_lt {f g : FA} (h : ltE f g = true) : leE f g = true := by
 rw [leE_iff]; rw [ltE_iff] at h; omega
theorem atE_iff {s i : Int} {f : FA} : atE s i f = true ↔ f.state = s ∧ f.input = i := by simp [atE]
theorem srt_uniq : ∀ {a b : List FA}, SrtE a → SrtE b → (∀ s i, a.filter (atE s i) = b.filter (atE s i)) → a = b
 | [], [], _, _, _ => rfl
 | [], y :: b, _, _, h => by
   have := h y.state y.input
   rw [List.filter_cons_of_pos (atE_iff.2 ⟨rfl, rfl⟩)] at this
   cases this
 | x :: a, [], _, _, h => by
   have := h x.state x.input
   rw [List.filter_cons_of_pos (atE_iff.2 ⟨rfl, rfl⟩)] at this
   cases this
 | x :: a, y :: b, ha, hb, h => by
   have hx := h x.state x.input
   have hy := h y.state y.input
   rw [List.filter_cons_of_pos (atE_iff.2 ⟨rfl, rfl⟩)] at hx
   rw [List.filter_cons_of_pos (p := atE y.state y.input) (atE_iff.2 ⟨rfl, rfl⟩)] at hy
   have mx : x ∈ y :: b := (List.mem_filter.1 (show x ∈ (y :: b).filter (atE x.state x.input) by rw [← hx]; exact List.mem_cons_self)).1
   have my : y ∈ x :: a := (List.mem_filter.1 (show y ∈ (x :: a).filter (atE y.state y.input) by rw [hy]; exact List.mem_cons_self)).1
   have l1 : leE y x = true := by
    rcases List.mem_cons.1 mx with e | e
    ·rw [e]; exact leE_refl y
    ·exact (List.pairwise_cons.1 hb).1 x e
   have l2 : leE x y = true := by
    rcases List.mem_cons.1 my with e | e
    ·rw [e]; exact leE_refl x
    ·exact (List.pairwise_cons.1 ha).1 y e
   have e1 : y.state = x.state ∧ y.input = x.input := by rw [leE_iff] at l1 l2; omega
   have hyx : atE x.state x.input y = true := atE_iff.2 e1
   rw [List.filter_cons_of_pos hyx] at hx
   obtain ⟨e2, _⟩ := List.cons.inj hx
   subst e2
   refine congrArg (x :: ·) (srt_uniq (List.pairwise_cons.1 ha).2 (List.pairwise_cons.1 hb).2 fun s i => ?_)
   have := h s i
   by_cases hs : atE s i x = true
   ·rw [List.filter_cons_of_pos hs, List.filter_cons_of_pos hs] at this
    exact (List.cons.inj this).2
   ·rw [List.filter_cons_of_neg hs, List.filter_cons_of_neg hs] at this
    exact this
def insE (x : FA) : List FA → List FA
 | [] => [x]
 | y :: l => if leE x y then x :: y :: l else y :: insE x l
def srtE : List FA → List FA
 | [] => []
 | x :: l => insE x (srtE l)
theorem insE_mem {x z : FA} : ∀ {l : List FA}, z ∈ insE x l ↔ z = x ∨ z ∈ l
 | [] => by simp [insE]
 | y :: l => by
   rw [insE]
   split
   ·simp
   ·rw [List.mem_cons, insE_mem (l := l), List.mem_cons]
    constructor
    ·rintro (h | h | h) <;> simp [h]
    ·rintro (h | h | h) <;> simp [h]
theorem insE_srt {x : FA} : ∀ {l : List FA}, SrtE l → SrtE (insE x l)
 | [], _ => List.pairwise_singleton _ _
 | y :: l, h => by
   rw [insE]
   split
   ·rename_i hxy
    refine List.pairwise_cons.2 ⟨fun z hz => ?_, h⟩
    rcases List.mem_cons.1 hz with rfl | hz
    ·exact hxy
    ·exact leE_trans hxy ((List.pairwise_cons.1 h).1 z hz)
   ·rename_i hxy
    refine List.pairwise_cons.2 ⟨fun z hz => ?_, insE_srt (List.pairwise_cons.1 h).2⟩
    rcases insE_mem.1 hz with rfl | hz
    ·exact leE_of_lt (leE_not.1 (Bool.eq_false_iff.2 hxy))
    ·exact (List.pairwise_cons.1 h).1 z hz
theorem insE_fil {x : FA} (s i : Int) : ∀ (l : List FA), (insE x l).filter (atE s i) = (x :: l).filter (atE s i)
 | [] => rfl
 | y :: l => by
   rw [insE]
   split
   ·rfl
   ·rename_i hxy
    have hlt := ltE_iff.1 (leE_not.1 (Bool.eq_false_iff.2 hxy))
    have ih := insE_fil (x := x) s i l
    by_cases hx : atE s i x = true
    ·have hy : ¬ atE s i y = true := fun hy => by
       rw [atE_iff] at hx hy; omega
     rw [List.filter_cons_of_neg hy, ih, List.filter_cons_of_pos hx, List.filter_cons_of_pos hx, List.filter_cons_of_neg hy]
    ·rw [List.filter_cons_of_neg hx] at ih ⊢
     by_cases hy : atE s i y = true
     ·rw [List.filter_cons_of_pos hy, List.filter_cons_of_pos hy, ih]
     ·rw [List.filter_cons_of_neg hy, List.filter_cons_of_neg hy, ih]
theorem srtE_srt : ∀ (l : List FA), SrtE (srtE l)
 | [] => List.Pairwise.nil
 | x :: l => insE_srt (srtE_srt l)
theorem srtE_fil (s i : Int) : ∀ (l : List FA), (srtE l).filter (atE s i) = l.filter (atE s i)
 | [] => rfl
 | x :: l => by
   have ih := srtE_fil s i l
   rw [srtE, insE_fil]
   by_cases hx : atE s i x = true
   ·rw [List.filter_cons_of_pos hx, List.filter_cons_of_pos hx, ih]
   ·rw [List.filter_cons_of_neg hx, List.filter_cons_of_neg hx, ih]
theorem srtE_eq {a l : List FA} (ha : SrtE a) (h : ∀ s i, a.filter (atE s i) = l.filter (atE s i)) : a = srtE l :=
 srt_uniq ha (srtE_srt l) fun s i => by rw [h, srtE_fil]
theorem insE_len (x : FA) : ∀ (l : List FA), (insE x l).length = l.length + 1
 | [] => rfl
 | y :: l => by
   rw [insE]
   split
   ·rfl
   ·rw [List.length_cons, insE_len x l]; rfl
theorem srtE_len : ∀ (l : List FA), (srtE l).length = l.length
 | [] => rfl
 | x :: l => by rw [srtE, insE_len, srtE_len l]; rfl
theorem srtE_mem {z : FA} : ∀ {l : List FA}, z ∈ srtE l ↔ z ∈ l
 | [] => Iff.rfl
 | x :: l => by rw [srtE, insE_mem, srtE_mem, List.mem_cons]
theorem srtE_id {l : List FA} (h : SrtE l) : srtE l = l := (srtE_eq h fun _ _ => rfl).symm
theorem srtE_srtE_app (a b : List FA) : srtE (srtE a ++ srtE b) = srtE (a ++ b) := srtE_eq (srtE_srt _) fun s i => by
 rw [srtE_fil, List.filter_append, srtE_fil, srtE_fil, List.filter_append]
theorem srtE_split {a1 a2 b1 b2 : List FA} (h1 : ∀ x ∈ a1, ∀ y ∈ a2, leE x y = true) (h2 : ∀ x ∈ b1, ∀ y ∈ b2, leE x y = true) (h3 : ∀ x ∈ a1, ∀ y ∈ b2, leE x y = true) (h4 : ∀ x ∈ b1, ∀ y ∈ a2, ltE x y = true) :
  srtE (a1 ++ a2 ++ (b1 ++ b2)) = srtE (a1 ++ b1) ++ srtE (a2 ++ b2) := by
 symm
 refine srtE_eq ?_ fun s i => ?_
 ·refine List.pairwise_append.2 ⟨srtE_srt _, srtE_srt _, fun x hx y hy => ?_⟩
  rw [srtE_mem, List.mem_append] at hx hy
  rcases hx with hx | hx <;> rcases hy with hy | hy
  ·exact h1 x hx y hy
  ·exact h3 x hx y hy
  ·exact leE_of_lt (h4 x hx y hy)
  ·exact h2 x hx y hy
 ·simp only [List.filter_append, srtE_fil, List.append_assoc]
  congr 1
  by_cases hb : b1.filter (atE s i) = []
  ·rw [hb]; simp
  by_cases ha : a2.filter (atE s i) = []
  ·rw [ha]; simp
  exfalso
  obtain ⟨x, hx⟩ := List.exists_mem_of_ne_nil _ hb
  obtain ⟨y, hy⟩ := List.exists_mem_of_ne_nil _ ha
  rw [List.mem_filter, atE_iff] at hx hy
  have := ltE_iff.1 (h4 x hx.1 y hy.1)
  omega
def sM (L : List FA) : Mem := [(0, .arr 6 (L.map FA.cells) false)]
theorem fas_norefs2 (l : List FA) : (l.map FA.cells).all AV.norefs = true := by
 rw [List.all_eq_true]
 intro c hc
 obtain ⟨f, _, rfl⟩ := List.mem_map.1 hc
 rfl
theorem fa_at {l r : List FA} {x : FA} : ((l ++ x :: r).map FA.cells)[l.length]? = some x.cells := by
 rw [List.getElem?_map, List.getElem?_append_right (Nat.le_refl _), Nat.sub_self]; rfl
theorem fa_swap {l r : List FA} {x y : FA} : (((l ++ y :: x :: r).map FA.cells).set (l.length + 1) y.cells).set l.length x.cells = (l ++ x :: y :: r).map FA.cells := by
 have h1 : ((l ++ y :: x :: r).map FA.cells).set (l.length + 1) y.cells = (l ++ y :: y :: r).map FA.cells := by
  rw [← List.map_set, List.set_append_right _ _ (by omega), show l.length + 1 - l.length = 1 by omega]; rfl
 rw [h1, ← List.map_set, List.set_append_right _ _ (Nat.le_refl _), Nat.sub_self]; rfl
theorem srt_put {s1 s2 u : List FA} {x : FA} (h : s1 ++ s2 = srtE u) (h2 : ∀ y ∈ s2, ltE x y = true) (h1 : ∀ y ∈ s1, leE y x = true) : s1 ++ x :: s2 = srtE (u ++ [x]) := by
 have hs : SrtE (s1 ++ s2) := by rw [h]; exact srtE_srt u
 obtain ⟨k1, k2, k3⟩ := List.pairwise_append.1 hs
 refine srtE_eq ?_ fun s i => ?_
 ·refine List.pairwise_append.2 ⟨k1, List.pairwise_cons.2 ⟨fun y hy => leE_of_lt (h2 y hy), k2⟩, fun y hy z hz => ?_⟩
  rcases List.mem_cons.1 hz with rfl | hz
  ·exact h1 y hy
  ·exact k3 y hy z hz
 ·rw [List.filter_append, List.filter_append, ← srtE_fil s i u, ← h, List.filter_append]
  by_cases hx : atE s i x = true
  ·rw [List.filter_cons_of_pos hx, List.filter_cons_of_pos hx]
   have : s2.filter (atE s i) = [] := by
    rw [List.filter_eq_nil_iff]
    intro y hy hy2
    rw [atE_iff] at hx hy2
    have := ltE_iff.1 (h2 y hy)
    omega
   rw [this]; simp
  ·rw [List.filter_cons_of_neg hx, List.filter_cons_of_neg hx]; simp
set_option maxHeartbeats 4000000 in
theorem insert_body (p u r : List FA) (a b N : Nat) (ha : a = p.length) (hb : b = a + u.length) (hN : N = (p ++ u ++ r).length) (hl : N < 1000000) :
  BodyIs prog 102 [.tv 0 N 0 N (.val N), .sc (.int .i64 a), .sc (.int .i64 b), .fn 44 []] (sM (p ++ u ++ r)) 1 (fun _ M _ => M = sM (p ++ srtE u ++ r)) := by
 have hNn : (p ++ u ++ r).length = p.length + u.length + r.length := by simp; omega
 refine BodyIs.of (nv := 4) (hid := [8, 9, 14, 34]) func102 rfl (by kernel_rfl) (by simp [ntmps102]) fun _ => ?_
 rw [ntmps102, results102]
 refine EvC.a ?_ (hok := by exact inI64_of (by omega) (by omega))
 refine EvC.block ?_
 refine EvC.loopS (σ := Nat) (fun c => ⟨[(0, .tv 0 N 0 N (.val N)), (1, .sc (.int .i64 a)), (2, .sc (.int .i64 b)), (3, .fn 44 []), (8, .sc (.int .i64 ((a + c : Nat) : Int)))], [], sM (p ++ (srtE (u.take c) ++ u.drop c) ++ r), 1⟩) (fun c => u.length - c) (fun c => 1 ≤ c ∧ (c ≤ u.length ∨ c = 1)) [0, 1, 2, 3, 8] 1 ?_ ?_
 ·have h1 : srtE (u.take 1) ++ u.drop 1 = u := by cases u <;> rfl
  exact ⟨[(0, 0)], 1, rfl, (by rw [h1]; simp only [go_sem, sM, fas_norefs2, Int.natCast_add, Int.natCast_one] <;> rfl), Nat.le_refl _, .inr rfl⟩
 rintro c ⟨c1, c2⟩
 obtain ⟨cZ, hcZ⟩ : ∃ z : Int, z = ((a + c : Nat) : Int) := ⟨_, rfl⟩
 rw [← hcZ]
 refine EvC.seq ?_
 refine EvC.a ?_
 by_cases hcl : c < u.length
 rotate_left
 ·refine EvC.cf ?_ (by simp only [go_sem, decide_eq_false (show ¬ cZ < (b : Int) by omega)] <;> rfl)
  refine EvC.exit ?_
  refine ⟨.inr rfl, _, rfl, ?_⟩
  rw [List.take_of_length_le (by omega), List.drop_of_length_le (by omega), List.append_nil]
  rfl
 refine EvC.cr ?_ (by simp only [go_sem, decide_eq_true (show cZ < (b : Int) by omega)] <;> rfl)
 have hdr : u.drop c = u[c] :: u.drop (c + 1) := List.drop_eq_getElem_cons hcl
 have htk : u.take (c + 1) = u.take c ++ [u[c]] := by rw [List.take_succ_eq_append_getElem hcl]
 generalize u[c] = x at hdr htk
 rw [hdr]
 have hsl : (srtE (u.take c)).length = c := by rw [srtE_len, List.length_take]; omega
 have hdl : (u.drop (c + 1)).length = u.length - (c + 1) := List.length_drop
 obtain ⟨T, hT⟩ : ∃ T, T = u.drop (c + 1) := ⟨_, rfl⟩
 rw [← hT] at hdl ⊢
 refine EvC.seq ?_
 refine EvC.block ?_
 refine EvC.a ?_
 refine EvC.block ?_
 refine EvC.loopS (σ := List FA × List FA) (fun g => ⟨[(0, .tv 0 N 0 N (.val N)), (1, .sc (.int .i64 a)), (2, .sc (.int .i64 b)), (3, .fn 44 []), (8, .sc (.int .i64 cZ)), (9, .sc (.int .i64 ((a + g.1.length : Nat) : Int)))], [], sM (p ++ g.1 ++ x :: (g.2 ++ T ++ r)), 1⟩) (fun g => g.1.length) (fun g => g.1 ++ g.2 = srtE (u.take c) ∧ ∀ y ∈ g.2, ltE x y = true) [0, 1, 2, 3, 8, 9] 1 ?_ ?_
 ·have h1 : p ++ (srtE (u.take c) ++ x :: T) ++ r = p ++ srtE (u.take c) ++ x :: ([] ++ T ++ r) := by simp
  exact ⟨[(0, 0)], (srtE (u.take c), []), rfl, (by rw [hsl, ← hcZ, h1]; simp only [go_sem, sM, fas_norefs2] <;> rfl), List.append_nil _, fun _ h => by cases h⟩
 rintro ⟨s1, s2⟩ ⟨k1, k2⟩
 simp only at k1 k2 ⊢
 have hsl2 : s1.length + s2.length = c := by rw [← hsl, ← k1, List.length_append]
 have hfin : (∀ y ∈ s1, leE y x = true) → p ++ s1 ++ x :: (s2 ++ T ++ r) = p ++ (srtE (u.take (c + 1)) ++ u.drop (c + 1)) ++ r := fun h1 => by
  rw [htk, ← srt_put k1 k2 h1, ← hT]; simp
 have hs12 : SrtE (s1 ++ s2) := by rw [k1]; exact srtE_srt _
 have hexit : p ++ s1 ++ x :: (s2 ++ T ++ r) = p ++ (srtE (u.take (c + 1)) ++ u.drop (c + 1)) ++ r → cZ + 1 = ((a + (c + 1) : Nat) : Int) := fun _ => by omega
 obtain ⟨jZ, hjZ⟩ : ∃ z : Int, z = ((a + s1.length : Nat) : Int) := ⟨_, rfl⟩
 rw [← hjZ]
 refine EvC.seq ?_
 rcases List.eq_nil_or_concat s1 with rfl | ⟨s, y, hsy⟩
 ·have hj0 : decide ((a : Int) < jZ) = false := decide_eq_false (by simp at hjZ; omega)
  have hx0 : ((p ++ [] ++ x :: (s2 ++ T ++ r)).map FA.cells)[jZ.toNat]? = some x.cells := by
   rw [show jZ.toNat = (p ++ ([] : List FA)).length by simp at hjZ ⊢; omega]; exact fa_at
  obtain ⟨y0, hy0⟩ : ∃ y : FA, ((p ++ [] ++ x :: (s2 ++ T ++ r)).map FA.cells)[(jZ - 1).toNat]? = some y.cells := by
   have hlt : (jZ - 1).toNat < (p ++ [] ++ x :: (s2 ++ T ++ r)).length := by simp at hjZ ⊢; omega
   exact ⟨_, by rw [List.getElem?_map, List.getElem?_eq_getElem hlt]; rfl⟩
  have hLn : ((p ++ [] ++ x :: (s2 ++ T ++ r)).map FA.cells).length = N := by rw [List.length_map]; simp at hsl2 ⊢; omega
  rw [hfin fun _ h => by cases h] at hx0 hy0 hLn ⊢
  obtain ⟨Z, hZ⟩ : ∃ Z, Z = p ++ (srtE (u.take (c + 1)) ++ u.drop (c + 1)) ++ r := ⟨_, rfl⟩
  rw [← hZ] at hx0 hy0 hLn ⊢
  apply EvC.seq
  apply EvC.drw mixed
  ·apply Tr.run
   ·simp only [go_sem, sM, hx0, hy0, hLn, FA.cells, hj0] <;> rfl
   ·simp; try omega
   apply Tr.cons
   ·exact .skipv (.sc (.int .i64 0)) rfl rfl (by simp only [go_sem] <;> rfl) (by simp only [go_sem] <;> rfl)
   apply Tr.done
   ·simp only [go_sem, hj0] <;> rfl
   ·simp
  ·kernel_rfl
  refine EvC.cf ?_
  refine EvC.exit ?_
  refine EvC.b ?_ (hok := by exact inI64_of (by omega) (by omega))
  exact ⟨[(0, 0)], c + 1, rfl, (by rw [← hZ, show ((a + (c + 1) : Nat) : Int) = cZ + 1 by omega]; simp only [go_sem, sM, fas_norefs2] <;> rfl), ⟨by omega, .inl hcl⟩, by omega⟩
 rw [List.concat_eq_append] at hsy
 subst hsy
 have hjg : decide ((a : Int) < jZ) = true := decide_eq_true (by simp at hjZ; omega)
 have hW : p ++ (s ++ [y]) ++ x :: (s2 ++ T ++ r) = (p ++ s) ++ y :: x :: (s2 ++ T ++ r) := by simp
 have hjn : jZ.toNat = (p ++ s).length + 1 := by simp at hjZ ⊢; omega
 have hjn1 : (jZ - 1).toNat = (p ++ s).length := by omega
 have hjp : 1 ≤ jZ := by omega
 have hlen : (p ++ s).length + 2 + (s2 ++ T ++ r).length = N := by simp at hsl2 ⊢; omega
 rw [hW] at hfin ⊢
 have hx0 : (((p ++ s) ++ y :: x :: (s2 ++ T ++ r)).map FA.cells)[jZ.toNat]? = some x.cells := by
  have h : (p ++ s) ++ y :: x :: (s2 ++ T ++ r) = (p ++ s ++ [y]) ++ x :: (s2 ++ T ++ r) := by simp
  rw [hjn, h, show (p ++ s).length + 1 = (p ++ s ++ [y]).length by simp; omega]; exact fa_at
 have hy0 : (((p ++ s) ++ y :: x :: (s2 ++ T ++ r)).map FA.cells)[(jZ - 1).toNat]? = some y.cells := by rw [hjn1]; exact fa_at
 have hLn : (((p ++ s) ++ y :: x :: (s2 ++ T ++ r)).map FA.cells).length = N := by rw [List.length_map, List.length_append, List.length_cons, List.length_cons]; omega
 have hsw := fa_swap (l := p ++ s) (r := s2 ++ T ++ r) (x := x) (y := y)
 rw [← hjn, ← hjn1] at hsw
 have hSn := fas_norefs2 ((p ++ s) ++ x :: y :: (s2 ++ T ++ r))
 have q := edge_is x y
 have hlt := edgeI_lt x y
 have hyx : leE y x = !ltE x y := rfl
 have hle : ∀ z ∈ s ++ [y], leE z y = true := fun z hz => by
  rcases List.mem_append.1 hz with hz | hz
  ·exact (List.pairwise_append.1 (List.pairwise_append.1 hs12).1).2.2 z hz y (List.mem_singleton.2 rfl)
  ·rw [List.mem_singleton.1 hz]; exact leE_refl y
 have hI : inI64 (jZ - 1) = true := inI64_of (by omega) (by omega)
 have hg2 : ∀ c : List AV, ((((p ++ s) ++ y :: x :: (s2 ++ T ++ r)).map FA.cells).set jZ.toNat c)[(jZ - 1).toNat]? = some y.cells := fun c => by
  rw [List.getElem?_set_ne (by omega)]; exact hy0
 have hLn2 : ∀ c : List AV, ((((p ++ s) ++ y :: x :: (s2 ++ T ++ r)).map FA.cells).set jZ.toNat c).length = N := fun c => by rw [List.length_set]; exact hLn
 obtain ⟨Z, hZ⟩ : ∃ Z, Z = ((p ++ s) ++ y :: x :: (s2 ++ T ++ r)).map FA.cells := ⟨_, rfl⟩
 obtain ⟨Z2, hZ2⟩ : ∃ Z, Z = ((p ++ s) ++ x :: y :: (s2 ++ T ++ r)).map FA.cells := ⟨_, rfl⟩
 rw [← hZ, ← hZ2] at hsw
 rw [← hZ] at hx0 hy0 hLn hg2 hLn2
 rw [← hZ2] at hSn
 rw [FA.cells] at hx0 hy0
 simp only [FA.cells] at hg2
 rw [FA.cells, FA.cells] at q hsw
 rw [sM, ← hZ]
 generalize edgeI x y = eZ at q hlt
 refine EvC.k1D mixed ?_ (h1 := by simp only [go_sem, hx0, hy0, hLn, hjg] <;> rfl) (k1 := by simp [hI]; omega) (c1 := .cg q) (h2 := by simp only [go_sem, hlt] <;> rfl)
 cases hb : ltE x y with
 | false =>
   rw [hb] at hyx hlt
   refine EvC.cf ?_ (by simp only [go_sem, hlt] <;> rfl)
   refine EvC.exit ?_
   have hf := hfin fun z hz => leE_trans (hle z hz) hyx
   refine EvC.b ?_ (hok := by exact inI64_of (by omega) (by omega))
   exact ⟨[(0, 0)], c + 1, rfl, (by rw [show ((a + (c + 1) : Nat) : Int) = cZ + 1 by omega, hZ, hf]; simp only [go_sem, sM, fas_norefs2] <;> rfl), ⟨by omega, .inl hcl⟩, by omega⟩
 | true =>
   rw [hb] at hlt
   refine EvC.cr ?_ (by simp only [go_sem, hlt] <;> rfl)
   refine EvC.seq ?_
   refine EvC.block ?_
   apply EvC.drwA mixed
   ·apply Tr.done
    ·simp only [go_sem, hx0, hy0, hLn, hg2, hLn2, hsw] <;> rfl
    ·simp [hI]; omega
   ·kernel_rfl
   refine EvC.b ?_ (hok := by exact inI64_of (by omega) (by omega))
   exact ⟨[(0, 0)], (s, y :: s2), rfl, (by rw [show ((a + s.length : Nat) : Int) = jZ - 1 by simp at hjZ; omega, show p ++ s ++ x :: (y :: s2 ++ T ++ r) = (p ++ s) ++ x :: y :: (s2 ++ T ++ r) by simp, sM, ← hZ2]; simp only [go_sem, hSn] <;> rfl), ⟨by rw [← k1]; simp, fun z hz => by
    rcases List.mem_cons.1 hz with rfl | hz
    ·exact hb
    ·exact k2 z hz⟩, by simp⟩
theorem fa_at2 {l m r : List FA} {x y : FA} : ((l ++ x :: (m ++ y :: r)).map FA.cells)[l.length + 1 + m.length]? = some y.cells := by
 have h : l ++ x :: (m ++ y :: r) = (l ++ x :: m) ++ y :: r := by simp
 rw [h, show l.length + 1 + m.length = (l ++ x :: m).length by simp; omega]; exact fa_at
theorem fa_swap2 {l m r : List FA} {x y : FA} : (((l ++ x :: (m ++ y :: r)).map FA.cells).set l.length y.cells).set (l.length + 1 + m.length) x.cells = (l ++ y :: (m ++ x :: r)).map FA.cells := by
 have h1 : ((l ++ x :: (m ++ y :: r)).map FA.cells).set l.length y.cells = ((l ++ y :: m) ++ y :: r).map FA.cells := by
  rw [← List.map_set, List.set_append_right _ _ (Nat.le_refl _), Nat.sub_self]; simp
 rw [h1, show l.length + 1 + m.length = (l ++ y :: m).length by simp; omega, ← List.map_set, List.set_append_right _ _ (Nat.le_refl _), Nat.sub_self]; simp
set_option maxHeartbeats 4000000 in
theorem swap_body (p u q v r : List FA) (a b n N : Nat) (ha : a = p.length) (hb : b = a + u.length + q.length) (hn : n = u.length) (hv : v.length = n) (hN : N = (p ++ u ++ q ++ v ++ r).length) (hl : N < 1000000) :
  BodyIs prog 128 [.tv 0 N 0 N (.val N), .sc (.int .i64 a), .sc (.int .i64 b), .sc (.int .i64 n), .fn 44 []] (sM (p ++ u ++ q ++ v ++ r)) 1 (fun _ M _ => M = sM (p ++ v ++ q ++ u ++ r)) := by
 have hNn : (p ++ u ++ q ++ v ++ r).length = p.length + u.length + q.length + v.length + r.length := by simp; omega
 refine BodyIs.of (nv := 5) (hid := [10, 13]) func128 rfl (by kernel_rfl) (by simp [ntmps128]) fun _ => ?_
 rw [ntmps128, results128]
 refine EvC.a ?_
 refine EvC.block ?_
 refine EvC.loopS (σ := Nat) (fun k => ⟨[(0, .tv 0 N 0 N (.val N)), (1, .sc (.int .i64 a)), (2, .sc (.int .i64 b)), (3, .sc (.int .i64 n)), (10, .sc (.int .i64 k))], [], sM (p ++ (v.take k ++ u.drop k) ++ q ++ (u.take k ++ v.drop k) ++ r), 1⟩) (fun k => n - k) (fun k => k ≤ n) [0, 1, 2, 3, 10] 1 ?_ ?_
 ·exact ⟨[(0, 0)], 0, rfl, (by simp only [go_sem, sM, fas_norefs2, List.take_zero, List.drop_zero, List.nil_append, Int.natCast_zero] <;> rfl), Nat.zero_le _⟩
 intro k hk
 refine EvC.seq ?_
 refine EvC.a ?_
 refine EvC.cond (by simp only [go_sem] <;> rfl) (fun hc => ?_) (fun hc => ?_)
 rotate_left
 ·refine EvC.exit ?_
  obtain rfl : k = n := by have : ¬ k < n := (by simpa using hc); omega
  refine ⟨.inr rfl, _, rfl, ?_⟩
  rw [List.take_of_length_le (by omega), List.drop_of_length_le (by omega), List.take_of_length_le (by omega), List.drop_of_length_le (by omega), List.append_nil, List.append_nil]
  rfl
 have hkn : k < n := by simpa using hc
 clear hc
 have hu : k < u.length := by omega
 have hv2 : k < v.length := by omega
 have hud : u.drop k = u[k] :: u.drop (k + 1) := List.drop_eq_getElem_cons hu
 have hvd : v.drop k = v[k] :: v.drop (k + 1) := List.drop_eq_getElem_cons hv2
 have hut : u.take (k + 1) = u.take k ++ [u[k]] := List.take_succ_eq_append_getElem hu
 have hvt : v.take (k + 1) = v.take k ++ [v[k]] := List.take_succ_eq_append_getElem hv2
 generalize u[k] = x at hud hut
 generalize v[k] = y at hvd hvt
 have e1 : p ++ (v.take k ++ u.drop k) ++ q ++ (u.take k ++ v.drop k) ++ r = (p ++ v.take k) ++ x :: ((u.drop (k + 1) ++ q ++ u.take k) ++ y :: (v.drop (k + 1) ++ r)) := by rw [hud, hvd]; simp
 have e2 : p ++ (v.take (k + 1) ++ u.drop (k + 1)) ++ q ++ (u.take (k + 1) ++ v.drop (k + 1)) ++ r = (p ++ v.take k) ++ y :: ((u.drop (k + 1) ++ q ++ u.take k) ++ x :: (v.drop (k + 1) ++ r)) := by rw [hut, hvt]; simp
 obtain ⟨kZ, hkZ⟩ : ∃ z : Int, z = (k : Int) := ⟨_, rfl⟩
 rw [← hkZ, e1]
 have hla : (p ++ v.take k).length = a + k := by simp; omega
 have hlm : (p ++ v.take k).length + 1 + (u.drop (k + 1) ++ q ++ u.take k).length = b + k := by simp; omega
 have hak : ((a : Int) + kZ).toNat = (p ++ v.take k).length := by omega
 have hbk : ((b : Int) + kZ).toNat = (p ++ v.take k).length + 1 + (u.drop (k + 1) ++ q ++ u.take k).length := by omega
 have hx0 := fa_at (l := p ++ v.take k) (r := (u.drop (k + 1) ++ q ++ u.take k) ++ y :: (v.drop (k + 1) ++ r)) (x := x)
 have hy0 := fa_at2 (l := p ++ v.take k) (m := u.drop (k + 1) ++ q ++ u.take k) (r := v.drop (k + 1) ++ r) (x := x) (y := y)
 have hsw := fa_swap2 (l := p ++ v.take k) (m := u.drop (k + 1) ++ q ++ u.take k) (r := v.drop (k + 1) ++ r) (x := x) (y := y)
 rw [← hak] at hx0
 rw [← hbk] at hy0
 rw [← hbk, ← hak] at hsw
 have hLn : (((p ++ v.take k) ++ x :: ((u.drop (k + 1) ++ q ++ u.take k) ++ y :: (v.drop (k + 1) ++ r))).map FA.cells).length = N := by rw [List.length_map, ← e1]; simp; omega
 have hSn := fas_norefs2 ((p ++ v.take k) ++ y :: ((u.drop (k + 1) ++ q ++ u.take k) ++ x :: (v.drop (k + 1) ++ r)))
 have hg2 : ∀ c : List AV, ((((p ++ v.take k) ++ x :: ((u.drop (k + 1) ++ q ++ u.take k) ++ y :: (v.drop (k + 1) ++ r))).map FA.cells).set ((a : Int) + kZ).toNat c)[((b : Int) + kZ).toNat]? = some y.cells := fun c => by
  rw [List.getElem?_set_ne (by omega)]; exact hy0
 have hLn2 : ∀ c : List AV, ((((p ++ v.take k) ++ x :: ((u.drop (k + 1) ++ q ++ u.take k) ++ y :: (v.drop (k + 1) ++ r))).map FA.cells).set ((a : Int) + kZ).toNat c).length = N := fun c => by rw [List.length_set]; exact hLn
 obtain ⟨Z, hZ⟩ : ∃ Z, Z = ((p ++ v.take k) ++ x :: ((u.drop (k + 1) ++ q ++ u.take k) ++ y :: (v.drop (k + 1) ++ r))).map FA.cells := ⟨_, rfl⟩
 obtain ⟨Z2, hZ2⟩ : ∃ Z, Z = ((p ++ v.take k) ++ y :: ((u.drop (k + 1) ++ q ++ u.take k) ++ x :: (v.drop (k + 1) ++ r))).map FA.cells := ⟨_, rfl⟩
 rw [← hZ, ← hZ2] at hsw
 rw [← hZ] at hx0 hy0 hLn hg2 hLn2
 rw [← hZ2] at hSn
 rw [FA.cells] at hx0 hy0
 simp only [FA.cells] at hg2
 rw [FA.cells, FA.cells] at hsw
 rw [sM, ← hZ]
 have hI1 : inI64 ((a : Int) + kZ) = true := inI64_of (by omega) (by omega)
 have hI2 : inI64 ((b : Int) + kZ) = true := inI64_of (by omega) (by omega)
 have hb1 : 0 ≤ (a : Int) + kZ ∧ ((a : Int) + kZ).toNat < N := by omega
 have hb2 : 0 ≤ (b : Int) + kZ ∧ ((b : Int) + kZ).toNat < N := by omega
 refine EvC.skip ?_
 refine EvC.seq ?_
 refine EvC.block ?_
 apply EvC.drwA mixed
 ·apply Tr.done
  ·simp only [go_sem, hx0, hy0, hLn, hg2, hLn2, hsw] <;> rfl
  ·simp [hI1, hI2, hb1, hb2]
 ·kernel_rfl
 refine EvC.b ?_ (hok := by exact inI64_of (by omega) (by omega))
 exact ⟨[(0, 0)], k + 1, rfl, (by rw [e2, sM, ← hZ2, hkZ]; simp only [go_sem, hSn, Int.natCast_add, Int.natCast_one] <;> rfl), hkn, by omega⟩
def fcs (L : List FA) : List (List AV) := L.map FA.cells
theorem sM_fcs (L : List FA) : sM L = [(0, .arr 6 (fcs L) false)] := rfl
theorem fcs_norefs (L : List FA) : (fcs L).all AV.norefs = true := fas_norefs2 L
set_option maxHeartbeats 4000000 in
theorem rotate_body (p u v r : List FA) (a m b N : Nat) (ha : a = p.length) (hm : m = a + u.length) (hb : b = m + v.length) (hu : u ≠ []) (hv : v ≠ []) (hN : N = (p ++ u ++ v ++ r).length) (hl : N < 1000000) :
  BodyIs prog 120 [.tv 0 N 0 N (.val N), .sc (.int .i64 a), .sc (.int .i64 m), .sc (.int .i64 b), .fn 44 []] (sM (p ++ u ++ v ++ r)) 1 (fun _ M _ => M = sM (p ++ v ++ u ++ r)) := by
 have hNn : (p ++ u ++ v ++ r).length = p.length + u.length + v.length + r.length := by simp; omega
 have hul := List.length_pos_iff.2 hu
 have hvl := List.length_pos_iff.2 hv
 refine BodyIs.of (nv := 5) (hid := [10, 11, 20, 23, 24, 27, 28, 29, 30, 35, 38, 43, 44, 45, 50, 53, 54, 55, 56]) func120 rfl (by kernel_rfl) (by simp [ntmps120]) fun _ => ?_
 rw [ntmps120, results120]
 have hI1 : inI64 ((m : Int) - a) = true := inI64_of (by omega) (by omega)
 have hI2 : inI64 ((b : Int) - m) = true := inI64_of (by omega) (by omega)
 refine EvC.a ?_ (hok := by simp [hI1])
 refine EvC.a ?_ (hok := by simp [hI2])
 refine EvC.seq ?_
 refine EvC.block ?_
 refine EvC.loopS (σ := List FA × List FA × List FA × List FA) (fun g => ⟨[(0, .tv 0 N 0 N (.val N)), (2, .sc (.int .i64 m)), (4, .fn 44 []), (10, .sc (.int .i64 g.2.1.length)), (11, .sc (.int .i64 g.2.2.1.length))], [], sM (g.1 ++ g.2.1 ++ g.2.2.1 ++ g.2.2.2), 1⟩) (fun g => g.2.1.length + g.2.2.1.length)
  (fun g => g.1 ++ g.2.2.1 ++ g.2.1 ++ g.2.2.2 = p ++ v ++ u ++ r ∧ g.2.1 ≠ [] ∧ g.2.2.1 ≠ [] ∧ g.1.length + g.2.1.length = m) [0, 2, 4, 10, 11] 1 ?_ ?_
 ·exact ⟨[(0, 0)], (p, u, v, r), rfl, (by simp only; rw [show (u.length : Int) = (m : Int) - a by omega, show (v.length : Int) = (b : Int) - m by omega]; simp only [go_sem, sM_fcs, fcs_norefs] <;> rfl), rfl, hu, hv, by simp only; omega⟩
 rintro ⟨P, X, Y, R⟩ ⟨k1, k2, k3, k4⟩
 simp only at k1 k2 k3 k4 ⊢
 have hXl := List.length_pos_iff.2 k2
 have hYl := List.length_pos_iff.2 k3
 have hLl : P.length + Y.length + X.length + R.length = N := by
  have := congrArg List.length k1
  simp only [List.length_append] at this
  omega
 obtain ⟨i, hi⟩ : ∃ i, i = X.length := ⟨_, rfl⟩
 obtain ⟨j, hj⟩ : ∃ j, j = Y.length := ⟨_, rfl⟩
 rw [← hi, ← hj]
 have hmi : (m : Int) - i = (P.length : Int) := by omega
 have hI3 : inI64 ((m : Int) - i) = true := inI64_of (by omega) (by omega)
 refine EvC.seq ?_
 refine EvC.a ?_
 by_cases hij : i = j
 ·have hb0 : decide ((i : Int) = j) = true := decide_eq_true (by omega)
  refine EvC.cf ?_ (by simp only [go_sem, hb0] <;> rfl)
  refine EvC.exit ?_
  apply EvC.region
  apply XR.run
  ·simp only [go_sem] <;> rfl
  ·simp [hI3]
  refine XR.gcTo ⟨[(50, .tv 0 N 0 N (.val N)), (53, .sc (.int .i64 P.length)), (54, .sc (.int .i64 m)), (55, .sc (.int .i64 i)), (56, .fn 44 [])], [], sM (P ++ X ++ Y ++ R), 1⟩ [50, 53, 54, 55, 56] [(0, 0)] rfl (by rw [← hmi]; simp only [go_sem, sM_fcs, fcs_norefs] <;> rfl) ?_
  apply XR.callI rfl rfl (by simp only [go_sem] <;> rfl) (by simp only [go_sem] <;> rfl) (by simp only [go_sem] <;> rfl)
  have hs := swap_body P X [] Y R P.length m i N rfl (by simp; omega) hi (by omega) (by simp; omega) hl
  rw [List.append_nil, List.append_nil] at hs
  refine hs.mono fun _ M z h => ?_
  subst h
  refine XR.nil ?_
  rw [k1]
  exact ⟨.inr rfl, _, rfl, rfl⟩
 have hb0 : decide ((i : Int) = j) = false := decide_eq_false (by omega)
 refine EvC.cr ?_ (by simp only [go_sem, hb0] <;> rfl)
 refine EvC.block ?_
 refine EvC.a ?_
 by_cases hji : j < i
 ·refine EvC.ct ?_ (by simp only [go_sem, decide_eq_true (show (j : Int) < i by omega)] <;> rfl)
  apply EvC.seq
  apply EvC.region
  apply XR.run
  ·simp only [go_sem] <;> rfl
  ·simp [hI3]
  refine XR.gcTo ⟨[(0, .tv 0 N 0 N (.val N)), (2, .sc (.int .i64 m)), (4, .fn 44 []), (10, .sc (.int .i64 i)), (11, .sc (.int .i64 j)), (24, .tv 0 N 0 N (.val N)), (27, .sc (.int .i64 P.length)), (28, .sc (.int .i64 m)), (29, .sc (.int .i64 j)), (30, .fn 44 [])], [], sM (P ++ X ++ Y ++ R), 1⟩ [0, 2, 4, 10, 11, 24, 27, 28, 29, 30] [(0, 0)] rfl (by rw [← hmi]; simp only [go_sem, sM_fcs, fcs_norefs] <;> rfl) ?_
  apply XR.callI rfl rfl (by simp only [go_sem] <;> rfl) (by simp only [go_sem] <;> rfl) (by simp only [go_sem] <;> rfl)
  obtain ⟨X1, X2, rfl, hX1⟩ : ∃ X1 X2, X = X1 ++ X2 ∧ X1.length = j := ⟨X.take j, X.drop j, (List.take_append_drop j X).symm, by simp; omega⟩
  have hX2 : X2.length = i - j := by rw [hi, List.length_append, hX1]; omega
  have hs := swap_body P X1 X2 Y R P.length m j N rfl (by rw [List.length_append] at k4; omega) hX1.symm hj.symm (by simp at hLl ⊢; omega) hl
  rw [show P ++ X1 ++ X2 ++ Y ++ R = P ++ (X1 ++ X2) ++ Y ++ R by simp] at hs
  refine hs.mono fun _ M z h => ?_
  subst h
  refine XR.nil ?_
  refine EvC.b ?_ (hok := by exact inI64_of (by omega) (by omega))
  refine ⟨[(0, 0)], (P ++ Y, X2, X1, R), rfl, ?_, ⟨by rw [← k1]; simp, fun (e : X2 = []) => by rw [e] at hX2; simp at hX2; omega, fun (e : X1 = []) => by rw [e] at hX1; simp at hX1; omega, by simp at k4 ⊢; omega⟩, by simp; omega⟩
  simp only
  rw [hX1, hX2, show ((i - j : Nat) : Int) = (i : Int) - j by omega]
  simp only [go_sem, sM_fcs, fcs_norefs] <;> rfl
 ·refine EvC.cf ?_ (by simp only [go_sem, decide_eq_false (show ¬ (j : Int) < i by omega)] <;> rfl)
  have hI5 : inI64 ((m : Int) + j) = true := inI64_of (by omega) (by omega)
  have hI6 : inI64 ((m : Int) + j - i) = true := inI64_of (by omega) (by omega)
  apply EvC.seq
  apply EvC.region
  apply XR.run
  ·simp only [go_sem] <;> rfl
  ·simp [hI3, hI5, hI6]
  have hmj : (m : Int) + j - i = ((m + j - i : Nat) : Int) := by omega
  refine XR.gcTo ⟨[(0, .tv 0 N 0 N (.val N)), (2, .sc (.int .i64 m)), (4, .fn 44 []), (10, .sc (.int .i64 i)), (11, .sc (.int .i64 j)), (35, .tv 0 N 0 N (.val N)), (38, .sc (.int .i64 P.length)), (43, .sc (.int .i64 ((m + j - i : Nat) : Int))), (44, .sc (.int .i64 i)), (45, .fn 44 [])], [], sM (P ++ X ++ Y ++ R), 1⟩ [0, 2, 4, 10, 11, 35, 38, 43, 44, 45] [(0, 0)] rfl (by rw [← hmi, ← hmj]; simp only [go_sem, sM_fcs, fcs_norefs] <;> rfl) ?_
  apply XR.callI rfl rfl (by simp only [go_sem] <;> rfl) (by simp only [go_sem] <;> rfl) (by simp only [go_sem] <;> rfl)
  obtain ⟨Y1, Y2, rfl, hY2⟩ : ∃ Y1 Y2, Y = Y1 ++ Y2 ∧ Y2.length = i := ⟨Y.take (j - i), Y.drop (j - i), (List.take_append_drop _ Y).symm, by simp; omega⟩
  have hY1 : Y1.length = j - i := by rw [hj, List.length_append, hY2]; omega
  have hs := swap_body P X Y1 Y2 R P.length (m + j - i) i N rfl (by omega) hi hY2 (by simp at hLl ⊢; omega) hl
  rw [show P ++ X ++ Y1 ++ Y2 ++ R = P ++ X ++ (Y1 ++ Y2) ++ R by simp] at hs
  refine hs.mono fun _ M z h => ?_
  subst h
  refine XR.nil ?_
  refine EvC.b ?_ (hok := by exact inI64_of (by omega) (by omega))
  refine ⟨[(0, 0)], (P, Y2, Y1, X ++ R), rfl, ?_, ⟨by rw [← k1]; simp, fun (e : Y2 = []) => by rw [e] at hY2; simp at hY2; omega, fun (e : Y1 = []) => by rw [e] at hY1; simp at hY1; omega, by simp; omega⟩, by simp; omega⟩
  simp only
  rw [hY1, hY2, show ((j - i : Nat) : Int) = (j : Int) - i by omega, show P ++ Y2 ++ Y1 ++ (X ++ R) = P ++ Y2 ++ Y1 ++ X ++ R by simp]
  simp only [go_sem, sM_fcs, fcs_norefs] <;> rfl
theorem half_u {z : Int} (h0 : 0 ≤ z) (h1 : z < 4000000) : shiftOf .shr .u64 (IntKind.wrap .u64 z) 1 = z / 2 := by
 have e : IntKind.wrap .u64 z = z := by
  simp only [IntKind.wrap, IntKind.signed, IntKind.bits, Bool.false_and, Bool.false_eq_true, if_false]
  exact Int.emod_eq_of_lt h0 (by omega)
 rw [e]
 show z.fdiv (2 ^ min 1 64) = _
 rw [Int.fdiv_eq_ediv_of_nonneg _ (by decide)]; rfl
theorem lt_le {f g h : FA} (h1 : leE f g = true) (h2 : ltE g h = true) : ltE f h = true := by
 rw [ltE_iff] at *; rw [leE_iff] at h1; omega
theorem le_lt {f g h : FA} (h1 : ltE f g = true) (h2 : leE g h = true) : ltE f h = true := by
 rw [ltE_iff] at *; rw [leE_iff] at h2; omega
theorem fa_swap3 {l r : List FA} {x y : FA} : (((l ++ x :: y :: r).map FA.cells).set l.length y.cells).set (l.length + 1) x.cells = (l ++ y :: x :: r).map FA.cells := by
 have h := fa_swap2 (l := l) (m := []) (r := r) (x := x) (y := y)
 simpa only [List.nil_append, List.length_nil, Nat.add_zero] using h
theorem fa_at1 {l r : List FA} {x y : FA} : ((l ++ x :: y :: r).map FA.cells)[l.length + 1]? = some y.cells := by
 have h := fa_at2 (l := l) (m := []) (r := r) (x := x) (y := y)
 simpa only [List.nil_append, List.length_nil, Nat.add_zero] using h
set_option maxHeartbeats 4000000 in
theorem merge1_body (p B r : List FA) (x : FA) (a m b N : Nat) (ha : a = p.length) (hm : m = a + 1) (hb : b = m + B.length) (hB : SrtE B) (hN : N = (p ++ [x] ++ B ++ r).length) (hl : N < 1000000) :
  BodyIs prog 103 [.tv 0 N 0 N (.val N), .sc (.int .i64 a), .sc (.int .i64 m), .sc (.int .i64 b), .fn 44 []] (sM (p ++ [x] ++ B ++ r)) 1 (fun _ M _ => M = sM (p ++ srtE ([x] ++ B) ++ r)) := by
 have hNn : (p ++ [x] ++ B ++ r).length = p.length + 1 + B.length + r.length := by simp; omega
 refine BodyIs.of (nv := 5) (hid := [10, 11, 12, 13, 14, 15, 16, 17, 18, 19, 20, 21, 22, 23, 24, 28, 33, 50, 58, 80, 85, 103, 110, 140, 151, 171, 185, 199, 213]) func103 rfl (by kernel_rfl) (by simp [ntmps103]) fun _ => ?_
 rw [ntmps103, results103]
 refine EvC.seq ?_
 have hNN : N = p.length + 1 + B.length + r.length := hN.trans hNn
 have hma : (m : Int) - a = 1 := by omega
 have hI1 : inI64 1 = true := inI64_of (by omega) (by omega)
 refine EvC.a ?_ (by simp only [go_sem, hma] <;> rfl) (by simp [hI1])
 refine EvC.ct ?_
 refine EvC.a ?_
 refine EvC.a ?_
 refine EvC.seq ?_
 refine EvC.block ?_
 refine EvC.loopS (σ := Nat × Nat) (fun g => ⟨[(0, .tv 0 N 0 N (.val N)), (1, .sc (.int .i64 a)), (4, .fn 44 []), (10, .sc (.int .i64 ((m + g.1 : Nat) : Int))), (11, .sc (.int .i64 ((m + g.2 : Nat) : Int)))], [], sM (p ++ [x] ++ B ++ r), 1⟩) (fun g => g.2 - g.1)
  (fun g => g.1 ≤ g.2 ∧ g.2 ≤ B.length ∧ (∀ y ∈ B.take g.1, ltE y x = true) ∧ ∀ y ∈ B.drop g.2, leE x y = true) [0, 1, 4, 10, 11] 1 ?_ ?_
 ·exact ⟨[(0, 0)], (0, B.length), rfl, (by simp only [Nat.add_zero]; rw [← hb]; simp only [go_sem, sM_fcs, fcs_norefs] <;> rfl), Nat.zero_le _, Nat.le_refl _, (fun y h => by simp at h), fun y h => by simp at h⟩
 rintro ⟨i, j⟩ ⟨i1, i2, i3, i4⟩
 simp only at i1 i2 i3 i4 ⊢
 obtain ⟨iZ, hiZ⟩ : ∃ z : Int, z = ((m + i : Nat) : Int) := ⟨_, rfl⟩
 obtain ⟨jZ, hjZ⟩ : ∃ z : Int, z = ((m + j : Nat) : Int) := ⟨_, rfl⟩
 rw [← hiZ, ← hjZ]
 refine EvC.seq ?_
 refine EvC.a ?_
 by_cases hij : i < j
 rotate_left
 ·refine EvC.cf ?_ (by simp only [go_sem, decide_eq_false (show ¬ iZ < jZ by omega)] <;> rfl)
  refine EvC.exit ?_
  obtain rfl : i = j := by omega
  obtain ⟨B1, hB1⟩ : ∃ B1, B1 = B.take i := ⟨_, rfl⟩
  obtain ⟨B2, hB2⟩ : ∃ B2, B2 = B.drop i := ⟨_, rfl⟩
  have hBe : B = B1 ++ B2 := by rw [hB1, hB2, List.take_append_drop]
  have hB1l : B1.length = i := by rw [hB1, List.length_take]; omega
  rw [← hB1] at i3
  rw [← hB2] at i4
  have hres : srtE ([x] ++ B) = B1 ++ x :: B2 := by
   symm
   rw [hBe] at hB ⊢
   obtain ⟨h1, h2, h3⟩ := List.pairwise_append.1 hB
   refine srtE_eq (List.pairwise_append.2 ⟨h1, List.pairwise_cons.2 ⟨i4, h2⟩, fun y hy z hz => ?_⟩) fun s k => ?_
   ·rcases List.mem_cons.1 hz with rfl | hz
    ·exact leE_of_lt (i3 y hy)
    ·exact h3 y hy z hz
   ·rw [List.filter_append, List.filter_append, List.filter_append]
    by_cases hx : atE s k x = true
    ·have : B1.filter (atE s k) = [] := by
       rw [List.filter_eq_nil_iff]
       intro y hy hy2
       rw [atE_iff] at hx hy2
       have := ltE_iff.1 (i3 y hy)
       omega
     rw [this, List.filter_cons_of_pos hx, List.filter_cons_of_pos hx]; rfl
    ·rw [List.filter_cons_of_neg hx, List.filter_cons_of_neg hx]; rfl
  rw [hres, hBe]
  rw [hBe, List.length_append] at hb hNN
  clear i1 i2 hB1 hB2 hres hBe hN hNn
  refine EvC.seq ?_
  refine EvC.a ?_
  refine EvC.block ?_
  refine EvC.loopS (σ := List FA × List FA) (fun g => ⟨[(0, .tv 0 N 0 N (.val N)), (10, .sc (.int .i64 iZ)), (13, .sc (.int .i64 ((a + g.1.length : Nat) : Int)))], [], sM (p ++ g.1 ++ x :: (g.2 ++ B2 ++ r)), 1⟩) (fun g => g.2.length) (fun g => g.1 ++ g.2 = B1) [0, 10, 13] 1 ?_ ?_
  ·exact ⟨[(0, 0)], ([], B1), rfl, (by rw [show p ++ [x] ++ (B1 ++ B2) ++ r = p ++ [] ++ x :: (B1 ++ B2 ++ r) by simp]; simp only [go_sem, sM_fcs, fcs_norefs, List.length_nil, Nat.add_zero] <;> rfl), rfl⟩
  rintro ⟨C1, C2⟩ k1
  simp only at k1 ⊢
  have hCl : C1.length + C2.length = i := by rw [← hB1l, ← k1, List.length_append]
  obtain ⟨kZ, hkZ⟩ : ∃ z : Int, z = ((a + C1.length : Nat) : Int) := ⟨_, rfl⟩
  rw [← hkZ]
  have hI4 : inI64 (iZ - 1) = true := inI64_of (by omega) (by omega)
  refine EvC.seq ?_
  refine EvC.a ?_ (hok := by simp [hI4])
  cases C2 with
  | nil =>
    simp at hCl
    refine EvC.cf ?_ (by simp only [go_sem, decide_eq_false (show ¬ kZ < iZ - 1 by omega)] <;> rfl)
    refine EvC.exit ?_
    refine EvC.ret ⟨.inl rfl, _, rfl, ?_⟩
    rw [List.append_nil] at k1
    rw [k1]
    show sM _ = sM _
    simp
  | cons y C2 =>
    simp at hCl
    refine EvC.cr ?_ (by simp only [go_sem, decide_eq_true (show kZ < iZ - 1 by omega)] <;> rfl)
    refine EvC.seq ?_
    refine EvC.block ?_
    have hW : p ++ C1 ++ x :: (y :: C2 ++ B2 ++ r) = (p ++ C1) ++ x :: y :: (C2 ++ B2 ++ r) := by simp
    rw [hW]
    have hkn : kZ.toNat = (p ++ C1).length := by simp; omega
    have hkn1 : (kZ + 1).toNat = (p ++ C1).length + 1 := by omega
    have hx0 := fa_at (l := p ++ C1) (r := y :: (C2 ++ B2 ++ r)) (x := x)
    have hy0 := fa_at1 (l := p ++ C1) (r := C2 ++ B2 ++ r) (x := x) (y := y)
    have hsw := fa_swap3 (l := p ++ C1) (r := C2 ++ B2 ++ r) (x := x) (y := y)
    have hLn : (((p ++ C1) ++ x :: y :: (C2 ++ B2 ++ r)).map FA.cells).length = N := by
     have := congrArg List.length k1
     simp at this ⊢; omega
    have hSn := fas_norefs2 ((p ++ C1) ++ y :: x :: (C2 ++ B2 ++ r))
    rw [← hkn1] at hsw hy0
    rw [← hkn] at hsw hx0
    have hg2 : ∀ c : List AV, ((((p ++ C1) ++ x :: y :: (C2 ++ B2 ++ r)).map FA.cells).set kZ.toNat c)[(kZ + 1).toNat]? = some y.cells := fun c => by
     rw [List.getElem?_set_ne (by omega)]; exact hy0
    have hLn2 : ∀ c : List AV, ((((p ++ C1) ++ x :: y :: (C2 ++ B2 ++ r)).map FA.cells).set kZ.toNat c).length = N := fun c => by rw [List.length_set]; exact hLn
    obtain ⟨Z, hZ⟩ : ∃ Z, Z = ((p ++ C1) ++ x :: y :: (C2 ++ B2 ++ r)).map FA.cells := ⟨_, rfl⟩
    obtain ⟨Z2, hZ2⟩ : ∃ Z, Z = ((p ++ C1) ++ y :: x :: (C2 ++ B2 ++ r)).map FA.cells := ⟨_, rfl⟩
    rw [← hZ, ← hZ2] at hsw
    rw [← hZ] at hx0 hy0 hLn hg2 hLn2
    rw [← hZ2] at hSn
    rw [FA.cells] at hx0 hy0
    simp only [FA.cells] at hg2
    rw [FA.cells, FA.cells] at hsw
    rw [sM, ← hZ]
    have hI5 : inI64 (kZ + 1) = true := inI64_of (by omega) (by omega)
    have hkb : 0 ≤ kZ ∧ kZ.toNat < N ∧ 0 ≤ kZ + 1 ∧ (kZ + 1).toNat < N := by
     have : (p ++ C1).length + 2 ≤ N := by simp; omega
     omega
    apply EvC.drwA mixed
    ·apply Tr.done
     ·simp only [go_sem, hx0, hy0, hLn, hg2, hLn2, hsw] <;> rfl
     ·simp [hI5, hkb]
    ·kernel_rfl
    refine EvC.b ?_ (hok := by simp [hI5])
    exact ⟨[(0, 0)], (C1 ++ [y], C2), rfl, (by rw [show ((a + (C1 ++ [y]).length : Nat) : Int) = kZ + 1 by simp; omega, show p ++ (C1 ++ [y]) ++ x :: (C2 ++ B2 ++ r) = (p ++ C1) ++ y :: x :: (C2 ++ B2 ++ r) by simp, sM, ← hZ2]; simp only [go_sem, hSn] <;> rfl), (by rw [← k1]; simp), by simp⟩
 refine EvC.cr ?_ (by simp only [go_sem, decide_eq_true (show iZ < jZ by omega)] <;> rfl)
 refine EvC.block ?_
 have hI2 : inI64 (iZ + jZ) = true := inI64_of (by omega) (by omega)
 obtain ⟨h, hh⟩ : ∃ h, h = (i + j) / 2 := ⟨_, rfl⟩
 obtain ⟨hZ, hhZ⟩ : ∃ z : Int, z = ((m + h : Nat) : Int) := ⟨_, rfl⟩
 have hhalf : shiftOf .shr .u64 (IntKind.wrap .u64 (iZ + jZ)) 1 = hZ := by rw [half_u (by omega) (by omega)]; omega
 have hI3 : inI64 hZ = true := inI64_of (by omega) (by omega)
 refine EvC.a ?_ (by simp only [go_sem, hhalf] <;> rfl) (by simp [hI2, hI3])
 have hhl : h < B.length := by omega
 have hdr : B.drop h = B[h] :: B.drop (h + 1) := List.drop_eq_getElem_cons hhl
 have htk : B.take (h + 1) = B.take h ++ [B[h]] := List.take_succ_eq_append_getElem hhl
 generalize B[h] = y at hdr htk
 have hBe : B = B.take h ++ y :: B.drop (h + 1) := by rw [← hdr, List.take_append_drop]
 have hW : p ++ [x] ++ B ++ r = p ++ x :: (B.take h ++ y :: (B.drop (h + 1) ++ r)) := by
  have e : p ++ [x] ++ (B.take h ++ y :: B.drop (h + 1)) ++ r = p ++ x :: (B.take h ++ y :: (B.drop (h + 1) ++ r)) := by simp
  rw [← hBe] at e; exact e
 have hBt : (B.take h).length = h := by rw [List.length_take]; omega
 have hx0 := fa_at (l := p) (r := B.take h ++ y :: (B.drop (h + 1) ++ r)) (x := x)
 have hy0 := fa_at2 (l := p) (m := B.take h) (r := B.drop (h + 1) ++ r) (x := x) (y := y)
 rw [← hW, ← ha] at hx0
 rw [← hW, hBt, ← ha, show a + 1 + h = hZ.toNat by omega] at hy0
 have hLn : ((p ++ [x] ++ B ++ r).map FA.cells).length = N := by rw [List.length_map, ← hN]
 obtain ⟨Z, hZe⟩ : ∃ Z, Z = (p ++ [x] ++ B ++ r).map FA.cells := ⟨_, rfl⟩
 have hSn := fas_norefs2 (p ++ [x] ++ B ++ r)
 rw [← hZe] at hx0 hy0 hLn hSn
 rw [FA.cells] at hx0 hy0
 have q := edge_is y x
 have hlt := edgeI_lt y x
 rw [FA.cells, FA.cells] at q
 generalize edgeI y x = eZ at q hlt
 have hBs := hB
 rw [hBe] at hBs
 obtain ⟨b1, b2, b3⟩ := List.pairwise_append.1 hBs
 have han : (a : Int).toNat = a := Int.toNat_natCast a
 rw [sM, ← hZe]
 refine EvC.k1D mixed ?_ (h1 := by simp only [go_sem, hx0, hy0, hLn, han] <;> rfl) (k1 := by simp; omega) (c1 := .ca q) (h2 := by simp only [go_sem, hlt] <;> rfl)
 cases hc : ltE y x with
 | true =>
   rw [hc] at hlt
   refine EvC.ct ?_ (by simp only [go_sem, hlt] <;> rfl)
   refine EvC.b ?_ (hok := by exact inI64_of (by omega) (by omega))
   refine ⟨[(0, 0)], (h + 1, j), rfl, (by rw [show ((m + (h + 1) : Nat) : Int) = hZ + 1 by omega, ← hjZ]; simp only [go_sem, hSn] <;> rfl), ⟨by omega, i2, fun z hz => ?_, i4⟩, by simp only; omega⟩
   simp only [htk] at hz
   rcases List.mem_append.1 hz with hz | hz
   ·exact lt_le (b3 z hz y List.mem_cons_self) hc
   ·rw [List.mem_singleton.1 hz]; exact hc
 | false =>
   rw [hc] at hlt
   refine EvC.cf ?_ (by simp only [go_sem, hlt] <;> rfl)
   refine EvC.b ?_
   refine ⟨[(0, 0)], (i, h), rfl, (by rw [← hiZ, ← hhZ]; simp only [go_sem, hSn] <;> rfl), ⟨by omega, by omega, i3, fun z hz => ?_⟩, by simp only; omega⟩
   have hxy : leE x y = true := by rw [leE, hc]; rfl
   simp only [hdr] at hz
   rcases List.mem_cons.1 hz with rfl | hz
   ·exact hxy
   ·exact leE_trans hxy ((List.pairwise_cons.1 b2).1 z hz)
set_option maxHeartbeats 4000000 in
theorem merge2_body (p A r : List FA) (y : FA) (a m b N : Nat) (ha : a = p.length) (hm : m = a + A.length) (hb : b = m + 1) (hA : SrtE A) (hA1 : A.length ≠ 1) (hN : N = (p ++ A ++ [y] ++ r).length) (hl : N < 1000000) :
  BodyIs prog 103 [.tv 0 N 0 N (.val N), .sc (.int .i64 a), .sc (.int .i64 m), .sc (.int .i64 b), .fn 44 []] (sM (p ++ A ++ [y] ++ r)) 1 (fun _ M _ => M = sM (p ++ srtE (A ++ [y]) ++ r)) := by
 have hNn : (p ++ A ++ [y] ++ r).length = p.length + A.length + 1 + r.length := by simp; omega
 have hNN : N = p.length + A.length + 1 + r.length := hN.trans hNn
 refine BodyIs.of (nv := 5) (hid := [10, 11, 12, 13, 14, 15, 16, 17, 18, 19, 20, 21, 22, 23, 24, 28, 33, 50, 58, 80, 85, 103, 110, 140, 151, 171, 185, 199, 213]) func103 rfl (by kernel_rfl) (by simp [ntmps103]) fun _ => ?_
 rw [ntmps103, results103]
 refine EvC.seq ?_
 have hI0 : inI64 ((m : Int) - a) = true := inI64_of (by omega) (by omega)
 refine EvC.a ?_ (hok := by simp [hI0])
 refine EvC.cs ?_ (by simp only [go_sem, decide_eq_false (show ¬ (m : Int) - a = 1 by omega)] <;> rfl)
 refine EvC.seq ?_
 have hma : (b : Int) - m = 1 := by omega
 have hI1 : inI64 1 = true := inI64_of (by omega) (by omega)
 refine EvC.a ?_ (by simp only [go_sem, hma] <;> rfl) (by simp [hI1])
 refine EvC.ct ?_
 refine EvC.a ?_
 refine EvC.a ?_
 refine EvC.seq ?_
 refine EvC.block ?_
 refine EvC.loopS (σ := Nat × Nat) (fun g => ⟨[(0, .tv 0 N 0 N (.val N)), (2, .sc (.int .i64 m)), (4, .fn 44 []), (14, .sc (.int .i64 ((a + g.1 : Nat) : Int))), (15, .sc (.int .i64 ((a + g.2 : Nat) : Int)))], [], sM (p ++ A ++ [y] ++ r), 1⟩) (fun g => g.2 - g.1)
  (fun g => g.1 ≤ g.2 ∧ g.2 ≤ A.length ∧ (∀ z ∈ A.take g.1, leE z y = true) ∧ ∀ z ∈ A.drop g.2, ltE y z = true) [0, 2, 4, 14, 15] 1 ?_ ?_
 ·exact ⟨[(0, 0)], (0, A.length), rfl, (by simp only [Nat.add_zero]; rw [← hm]; simp only [go_sem, sM_fcs, fcs_norefs] <;> rfl), Nat.zero_le _, Nat.le_refl _, (fun y h => by simp at h), fun y h => by simp at h⟩
 rintro ⟨i, j⟩ ⟨i1, i2, i3, i4⟩
 simp only at i1 i2 i3 i4 ⊢
 obtain ⟨iZ, hiZ⟩ : ∃ z : Int, z = ((a + i : Nat) : Int) := ⟨_, rfl⟩
 obtain ⟨jZ, hjZ⟩ : ∃ z : Int, z = ((a + j : Nat) : Int) := ⟨_, rfl⟩
 rw [← hiZ, ← hjZ]
 refine EvC.seq ?_
 refine EvC.a ?_
 by_cases hij : i < j
 rotate_left
 ·refine EvC.cf ?_ (by simp only [go_sem, decide_eq_false (show ¬ iZ < jZ by omega)] <;> rfl)
  refine EvC.exit ?_
  obtain rfl : i = j := by omega
  obtain ⟨A1, hB1⟩ : ∃ A1, A1 = A.take i := ⟨_, rfl⟩
  obtain ⟨A2, hB2⟩ : ∃ A2, A2 = A.drop i := ⟨_, rfl⟩
  have hBe : A = A1 ++ A2 := by rw [hB1, hB2, List.take_append_drop]
  have hB1l : A1.length = i := by rw [hB1, List.length_take]; omega
  rw [← hB1] at i3
  rw [← hB2] at i4
  have hres : srtE (A ++ [y]) = A1 ++ y :: A2 := by
   have h1 : A1 ++ A2 = srtE A := by rw [← hBe, srtE_id hA]
   exact (srt_put h1 i4 i3).symm
  rw [hres, hBe]
  rw [hBe, List.length_append] at hm hNN
  clear i1 i2 hB1 hB2 hres hBe hN hNn hA1
  refine EvC.seq ?_
  refine EvC.a ?_
  refine EvC.block ?_
  refine EvC.loopS (σ := List FA × List FA) (fun g => ⟨[(0, .tv 0 N 0 N (.val N)), (14, .sc (.int .i64 iZ)), (17, .sc (.int .i64 ((a + A1.length + g.1.length : Nat) : Int)))], [], sM (p ++ A1 ++ g.1 ++ y :: (g.2 ++ r)), 1⟩) (fun g => g.1.length) (fun g => g.1 ++ g.2 = A2) [0, 14, 17] 1 ?_ ?_
  ·exact ⟨[(0, 0)], (A2, []), rfl, (by rw [show p ++ (A1 ++ A2) ++ [y] ++ r = p ++ A1 ++ A2 ++ y :: ([] ++ r) by simp, show ((a + A1.length + A2.length : Nat) : Int) = (m : Int) by omega]; simp only [go_sem, sM_fcs, fcs_norefs] <;> rfl), List.append_nil _⟩
  rintro ⟨C1, C2⟩ k1
  simp only at k1 ⊢
  have hCl : C1.length + C2.length = A2.length := by rw [← k1, List.length_append]
  obtain ⟨kZ, hkZ⟩ : ∃ z : Int, z = ((a + A1.length + C1.length : Nat) : Int) := ⟨_, rfl⟩
  rw [← hkZ]
  refine EvC.seq ?_
  refine EvC.a ?_
  rcases List.eq_nil_or_concat C1 with rfl | ⟨C, z, hsy⟩
  ·simp at hCl
   simp at hkZ
   refine EvC.cf ?_ (by simp only [go_sem, decide_eq_false (show ¬ iZ < kZ by omega)] <;> rfl)
   refine EvC.exit ?_
   refine EvC.ret ⟨.inl rfl, _, rfl, ?_⟩
   rw [List.nil_append] at k1
   rw [k1]
   show sM _ = sM _
   simp
  ·rw [List.concat_eq_append] at hsy
   subst hsy
   simp at hCl
   simp at hkZ
   refine EvC.cr ?_ (by simp only [go_sem, decide_eq_true (show iZ < kZ by omega)] <;> rfl)
   refine EvC.seq ?_
   refine EvC.block ?_
   have hW : p ++ A1 ++ (C ++ [z]) ++ y :: (C2 ++ r) = (p ++ A1 ++ C) ++ z :: y :: (C2 ++ r) := by simp
   rw [hW]
   have hkn1 : (kZ - 1).toNat = (p ++ A1 ++ C).length := by simp; omega
   have hkn : kZ.toNat = (p ++ A1 ++ C).length + 1 := by omega
   have hx0 := fa_at1 (l := p ++ A1 ++ C) (r := C2 ++ r) (x := z) (y := y)
   have hy0 := fa_at (l := p ++ A1 ++ C) (r := y :: (C2 ++ r)) (x := z)
   have hsw := fa_swap (l := p ++ A1 ++ C) (r := C2 ++ r) (x := y) (y := z)
   have hLn : (((p ++ A1 ++ C) ++ z :: y :: (C2 ++ r)).map FA.cells).length = N := by
    have := congrArg List.length k1
    simp at this ⊢; omega
   have hSn := fas_norefs2 ((p ++ A1 ++ C) ++ y :: z :: (C2 ++ r))
   rw [← hkn] at hsw hx0
   rw [← hkn1] at hsw hy0
   have hg2 : ∀ c : List AV, ((((p ++ A1 ++ C) ++ z :: y :: (C2 ++ r)).map FA.cells).set kZ.toNat c)[(kZ - 1).toNat]? = some z.cells := fun c => by
    rw [List.getElem?_set_ne (by omega)]; exact hy0
   have hLn2 : ∀ c : List AV, ((((p ++ A1 ++ C) ++ z :: y :: (C2 ++ r)).map FA.cells).set kZ.toNat c).length = N := fun c => by rw [List.length_set]; exact hLn
   obtain ⟨Z, hZ⟩ : ∃ Z, Z = ((p ++ A1 ++ C) ++ z :: y :: (C2 ++ r)).map FA.cells := ⟨_, rfl⟩
   obtain ⟨Z2, hZ2⟩ : ∃ Z, Z = ((p ++ A1 ++ C) ++ y :: z :: (C2 ++ r)).map FA.cells := ⟨_, rfl⟩
   rw [← hZ, ← hZ2] at hsw
   rw [← hZ] at hx0 hy0 hLn hg2 hLn2
   rw [← hZ2] at hSn
   rw [FA.cells] at hx0 hy0
   simp only [FA.cells] at hg2
   rw [FA.cells, FA.cells] at hsw
   rw [sM, ← hZ]
   have hI5 : inI64 (kZ - 1) = true := inI64_of (by omega) (by omega)
   have hkb : 0 ≤ kZ ∧ kZ.toNat < N ∧ 1 ≤ kZ ∧ (kZ - 1).toNat < N ∧ kZ.toNat - 1 < N := by
    have : (p ++ A1 ++ C).length + 2 ≤ N := by simp; omega
    omega
   apply EvC.drwA mixed
   ·apply Tr.done
    ·simp only [go_sem, hx0, hy0, hLn, hg2, hLn2, hsw] <;> rfl
    ·simp [hI5, hkb]
   ·kernel_rfl
   refine EvC.b ?_ (hok := by simp [hI5])
   exact ⟨[(0, 0)], (C, z :: C2), rfl, (by rw [show ((a + A1.length + C.length : Nat) : Int) = kZ - 1 by omega, show p ++ A1 ++ C ++ y :: (z :: C2 ++ r) = (p ++ A1 ++ C) ++ y :: z :: (C2 ++ r) by simp, sM, ← hZ2]; simp only [go_sem, hSn] <;> rfl), (by rw [← k1]; simp), by simp⟩
 refine EvC.cr ?_ (by simp only [go_sem, decide_eq_true (show iZ < jZ by omega)] <;> rfl)
 refine EvC.block ?_
 have hI2 : inI64 (iZ + jZ) = true := inI64_of (by omega) (by omega)
 obtain ⟨h, hh⟩ : ∃ h, h = (i + j) / 2 := ⟨_, rfl⟩
 obtain ⟨hZ, hhZ⟩ : ∃ z : Int, z = ((a + h : Nat) : Int) := ⟨_, rfl⟩
 have hhalf : shiftOf .shr .u64 (IntKind.wrap .u64 (iZ + jZ)) 1 = hZ := by rw [half_u (by omega) (by omega)]; omega
 have hI3 : inI64 hZ = true := inI64_of (by omega) (by omega)
 refine EvC.a ?_ (by simp only [go_sem, hhalf] <;> rfl) (by simp [hI2, hI3])
 have hhl : h < A.length := by omega
 have hdr : A.drop h = A[h] :: A.drop (h + 1) := List.drop_eq_getElem_cons hhl
 have htk : A.take (h + 1) = A.take h ++ [A[h]] := List.take_succ_eq_append_getElem hhl
 generalize A[h] = x at hdr htk
 have hBe : A = A.take h ++ x :: A.drop (h + 1) := by rw [← hdr, List.take_append_drop]
 have hW : p ++ A ++ [y] ++ r = (p ++ A.take h) ++ x :: (A.drop (h + 1) ++ y :: r) := by
  have e : p ++ (A.take h ++ x :: A.drop (h + 1)) ++ [y] ++ r = (p ++ A.take h) ++ x :: (A.drop (h + 1) ++ y :: r) := by simp
  rw [← hBe] at e; exact e
 have hBt : (p ++ A.take h).length = a + h := by rw [List.length_append, List.length_take]; omega
 have hBd : (A.drop (h + 1)).length = A.length - (h + 1) := List.length_drop
 have hx0 := fa_at (l := p ++ A.take h) (r := A.drop (h + 1) ++ y :: r) (x := x)
 have hy0 := fa_at2 (l := p ++ A.take h) (m := A.drop (h + 1)) (r := r) (x := x) (y := y)
 rw [← hW, hBt, show a + h = hZ.toNat by omega] at hx0
 rw [← hW, hBt, hBd, show a + h + 1 + (A.length - (h + 1)) = m by omega] at hy0
 have hLn : ((p ++ A ++ [y] ++ r).map FA.cells).length = N := by rw [List.length_map, ← hN]
 obtain ⟨Z, hZe⟩ : ∃ Z, Z = (p ++ A ++ [y] ++ r).map FA.cells := ⟨_, rfl⟩
 have hSn := fas_norefs2 (p ++ A ++ [y] ++ r)
 rw [← hZe] at hx0 hy0 hLn hSn
 rw [FA.cells] at hx0 hy0
 have q := edge_is y x
 have hlt := edgeI_lt y x
 rw [FA.cells, FA.cells] at q
 generalize edgeI y x = eZ at q hlt
 have hBs := hA
 rw [hBe] at hBs
 obtain ⟨b1, b2, b3⟩ := List.pairwise_append.1 hBs
 have han : (m : Int).toNat = m := Int.toNat_natCast m
 rw [sM, ← hZe]
 refine EvC.k1D mixed ?_ (h1 := by simp only [go_sem, hx0, hy0, hLn, han] <;> rfl) (k1 := by simp; omega) (c1 := .ca q) (h2 := by simp only [go_sem, hlt] <;> rfl)
 cases hc : ltE y x with
 | false =>
   rw [hc] at hlt
   refine EvC.ct ?_ (by simp only [go_sem, hlt] <;> rfl)
   refine EvC.b ?_ (hok := by exact inI64_of (by omega) (by omega))
   refine ⟨[(0, 0)], (h + 1, j), rfl, (by rw [show ((a + (h + 1) : Nat) : Int) = hZ + 1 by omega, ← hjZ]; simp only [go_sem, hSn] <;> rfl), ⟨by omega, i2, fun z hz => ?_, i4⟩, by simp only; omega⟩
   have hxy : leE x y = true := by rw [leE, hc]; rfl
   simp only [htk] at hz
   rcases List.mem_append.1 hz with hz | hz
   ·exact leE_trans (b3 z hz x List.mem_cons_self) hxy
   ·rw [List.mem_singleton.1 hz]; exact hxy
 | true =>
   rw [hc] at hlt
   refine EvC.cf ?_ (by simp only [go_sem, hlt] <;> rfl)
   refine EvC.b ?_
   refine ⟨[(0, 0)], (i, h), rfl, (by rw [← hiZ, ← hhZ]; simp only [go_sem, hSn] <;> rfl), ⟨by omega, by omega, i3, fun z hz => ?_⟩, by simp only; omega⟩
   simp only [hdr] at hz
   rcases List.mem_cons.1 hz with rfl | hz
   ·exact hc
   ·exact le_lt hc ((List.pairwise_cons.1 b2).1 z hz)
def MergeOk (K : Nat) : Prop := ∀ (p A B r : List FA) (a m b N : Nat), a = p.length → m = a + A.length → b = m + B.length → A ≠ [] → B ≠ [] → SrtE A → SrtE B → N = (p ++ A ++ B ++ r).length → N < 1000000 → A.length + B.length ≤ K →
 BodyIs prog 103 [.tv 0 N 0 N (.val N), .sc (.int .i64 a), .sc (.int .i64 m), .sc (.int .i64 b), .fn 44 []] (sM (p ++ A ++ B ++ r)) 1 (fun _ M _ => M = sM (p ++ srtE (A ++ B) ++ r))
def CutL (A B : List FA) (i k : Nat) : Prop := ∀ x ∈ A.take i, ∀ y ∈ B.drop k, leE x y = true
def CutR (A B : List FA) (i k : Nat) : Prop := ∀ x ∈ A.drop i, ∀ y ∈ B.take k, ltE y x = true
theorem srt_take {l : List FA} (h : SrtE l) (i : Nat) : SrtE (l.take i) := List.Pairwise.sublist (List.take_sublist i l) h
theorem srt_drop {l : List FA} (h : SrtE l) (i : Nat) : SrtE (l.drop i) := List.Pairwise.sublist (List.drop_sublist i l) h
theorem srt_cut {l : List FA} (h : SrtE l) (i : Nat) : ∀ x ∈ l.take i, ∀ y ∈ l.drop i, leE x y = true := by
 have h2 := h
 rw [← List.take_append_drop i l] at h2
 exact (List.pairwise_append.1 h2).2.2
theorem cut_left {A B : List FA} (hA : SrtE A) (hB : SrtE B) {i k : Nat} (hi : i < A.length) (hk : k < B.length) (h : leE A[i] B[k] = true) : CutL A B (i + 1) k := by
 intro x hx y hy
 have h1 : leE x A[i] = true := by
  rw [List.take_succ_eq_append_getElem hi] at hx
  rcases List.mem_append.1 hx with hx | hx
  ·exact srt_cut hA i x hx _ (by rw [List.drop_eq_getElem_cons hi]; exact List.mem_cons_self)
  ·rw [List.mem_singleton.1 hx]; exact leE_refl _
 have h2 : leE B[k] y = true := by
  have hd := List.drop_eq_getElem_cons hk
  rw [hd] at hy
  rcases List.mem_cons.1 hy with rfl | hy
  ·exact leE_refl _
  ·have := srt_drop hB k
   rw [hd] at this
   exact (List.pairwise_cons.1 this).1 y hy
 exact leE_trans h1 (leE_trans h h2)
theorem cut_right {A B : List FA} (hA : SrtE A) (hB : SrtE B) {i k : Nat} (hi : i < A.length) (hk : k < B.length) (h : ltE B[k] A[i] = true) : CutR A B i (k + 1) := by
 intro x hx y hy
 have h1 : leE A[i] x = true := by
  have hd := List.drop_eq_getElem_cons hi
  rw [hd] at hx
  rcases List.mem_cons.1 hx with rfl | hx
  ·exact leE_refl _
  ·have := srt_drop hA i
   rw [hd] at this
   exact (List.pairwise_cons.1 this).1 x hx
 have h2 : leE y B[k] = true := by
  rw [List.take_succ_eq_append_getElem hk] at hy
  rcases List.mem_append.1 hy with hy | hy
  ·exact srt_cut hB k y hy _ (by rw [List.drop_eq_getElem_cons hk]; exact List.mem_cons_self)
  ·rw [List.mem_singleton.1 hy]; exact leE_refl _
 exact le_lt (lt_le h2 h) h1
set_option maxHeartbeats 8000000 in
theorem merge3_body (p A B r : List FA) (a m b N : Nat) (ha : a = p.length) (hm : m = a + A.length) (hb : b = m + B.length) (hA : SrtE A) (hB : SrtE B) (hA1 : 2 ≤ A.length) (hB1 : 2 ≤ B.length) (hN : N = (p ++ A ++ B ++ r).length) (hl : N < 1000000)
  (ih : MergeOk (A.length + B.length - 1)) :
  BodyIs prog 103 [.tv 0 N 0 N (.val N), .sc (.int .i64 a), .sc (.int .i64 m), .sc (.int .i64 b), .fn 44 []] (sM (p ++ A ++ B ++ r)) 1 (fun _ M _ => M = sM (p ++ srtE (A ++ B) ++ r)) := by
 have hNN : N = p.length + A.length + B.length + r.length := by rw [hN]; simp; omega
 refine BodyIs.of (nv := 5) (hid := [10, 11, 12, 13, 14, 15, 16, 17, 18, 19, 20, 21, 22, 23, 24, 28, 33, 50, 58, 80, 85, 103, 110, 140, 151, 171, 185, 199, 213, 186, 187, 188, 189, 190, 200, 201, 202, 203, 204, 214, 215, 216, 217, 218]) func103 rfl (by kernel_rfl) (by simp [ntmps103]) fun _ => ?_
 rw [ntmps103, results103]
 refine EvC.seq ?_
 have hI0 : inI64 ((m : Int) - a) = true := inI64_of (by omega) (by omega)
 have hI1 : inI64 ((b : Int) - m) = true := inI64_of (by omega) (by omega)
 refine EvC.a ?_ (hok := by simp [hI0])
 refine EvC.cs ?_ (by simp only [go_sem, decide_eq_false (show ¬ (m : Int) - a = 1 by omega)] <;> rfl)
 refine EvC.seq ?_
 refine EvC.a ?_ (hok := by simp [hI1])
 refine EvC.cs ?_ (by simp only [go_sem, decide_eq_false (show ¬ (b : Int) - m = 1 by omega)] <;> rfl)
 obtain ⟨mid, hmid⟩ : ∃ h, h = (a + b) / 2 := ⟨_, rfl⟩
 obtain ⟨n, hn⟩ : ∃ n, n = mid + m := ⟨_, rfl⟩
 obtain ⟨dZ, hdZ⟩ : ∃ z : Int, z = (mid : Int) := ⟨_, rfl⟩
 obtain ⟨nZ, hnZ⟩ : ∃ z : Int, z = (n : Int) := ⟨_, rfl⟩
 have hI2 : inI64 ((a : Int) + b) = true := inI64_of (by omega) (by omega)
 have hhalf : shiftOf .shr .u64 (IntKind.wrap .u64 ((a : Int) + b)) 1 = dZ := by rw [half_u (by omega) (by omega)]; omega
 have hI3 : inI64 dZ = true := inI64_of (by omega) (by omega)
 have hdm : dZ + (m : Int) = nZ := by omega
 have hI4 : inI64 nZ = true := inI64_of (by omega) (by omega)
 refine EvC.a ?_ (by simp only [go_sem, hhalf] <;> rfl) (by simp [hI2, hI3])
 refine EvC.a ?_ (by simp only [go_sem, hdm] <;> rfl) (by simp [hI4])
 refine EvC.a ?_
 refine EvC.mergeS (α := Nat × Nat) (fun g => ⟨[(0, .tv 0 N 0 N (.val N)), (1, .sc (.int .i64 a)), (2, .sc (.int .i64 m)), (3, .sc (.int .i64 b)), (4, .fn 44 []), (18, .sc (.int .i64 dZ)), (19, .sc (.int .i64 nZ)), (20, .sc (.int .i64 g.1)), (21, .sc (.int .i64 g.2))], [], sM (p ++ A ++ B ++ r), 1⟩)
  (fun g => a ≤ g.1 ∧ g.1 ≤ g.2 ∧ g.2 ≤ m ∧ m ≤ n - g.2 ∧ n - g.1 ≤ b ∧ (g.1 = a ∨ n - g.1 = b) ∧ (g.2 = m ∨ n - g.2 = m)) [0, 1, 2, 3, 4, 18, 19, 20, 21] 1 ?_ ?_
 ·refine EvC.a ?_
  by_cases hc : mid < m
  ·refine EvC.ct ?_ (by simp only [go_sem, decide_eq_true (show dZ < (m : Int) by omega)] <;> rfl)
   refine EvC.a ?_ (hok := by exact inI64_of (by omega) (by omega))
   refine EvC.b ?_
   exact ⟨rfl, [(0, 0)], (n - b, mid), rfl, (by rw [show ((n - b : Nat) : Int) = nZ - (b : Int) by omega]; simp only; rw [← hdZ]; simp only [go_sem, sM_fcs, fcs_norefs] <;> rfl), by simp only; omega⟩
  ·refine EvC.cf ?_ (by simp only [go_sem, decide_eq_false (show ¬ dZ < (m : Int) by omega)] <;> rfl)
   refine EvC.a ?_
   refine EvC.b ?_
   exact ⟨rfl, [(0, 0)], (a, m), rfl, (by simp only [go_sem, sM_fcs, fcs_norefs] <;> rfl), Nat.le_refl _, show a ≤ m by omega, Nat.le_refl _, show m ≤ n - m by omega, show n - a ≤ b by omega, .inl rfl, .inl rfl⟩
 rintro ⟨s0, r0⟩ ⟨g1, g2, g3, g4, g5, g6, g7⟩
 simp only at g1 g2 g3 g4 g5 g6 g7 ⊢
 obtain ⟨pZ, hpZ⟩ : ∃ z : Int, z = nZ - 1 := ⟨_, rfl⟩
 have hI5 : inI64 (nZ - 1) = true := inI64_of (by omega) (by omega)
 refine EvC.a ?_ (by simp only [go_sem, ← hpZ] <;> rfl) (by rw [hpZ]; simp [hI5])
 have cL0 : CutL A B (s0 - a) (n - s0 - m) := by
  intro x hx y hy
  rcases g6 with h | h
  ·rw [h, Nat.sub_self] at hx; simp at hx
  ·rw [h, List.drop_of_length_le (by omega)] at hy; cases hy
 have cR0 : CutR A B (r0 - a) (n - r0 - m) := by
  intro x hx y hy
  rcases g7 with h | h
  ·rw [h, List.drop_of_length_le (by omega)] at hx; cases hx
  ·rw [h, Nat.sub_self] at hy; simp at hy
 refine EvC.mergeS (α := Nat) (fun s => ⟨[(0, .tv 0 N 0 N (.val N)), (1, .sc (.int .i64 a)), (2, .sc (.int .i64 m)), (3, .sc (.int .i64 b)), (4, .fn 44 []), (18, .sc (.int .i64 dZ)), (19, .sc (.int .i64 nZ)), (20, .sc (.int .i64 s))], [], sM (p ++ A ++ B ++ r), 1⟩)
  (fun s => s0 ≤ s ∧ s ≤ r0 ∧ CutL A B (s - a) (n - s - m) ∧ CutR A B (s - a) (n - s - m)) [0, 1, 2, 3, 4, 18, 19, 20] 1 ?_ ?_
 ·refine EvC.block ?_
  refine EvC.loopS (σ := Nat × Nat) (fun g => ⟨[(0, .tv 0 N 0 N (.val N)), (1, .sc (.int .i64 a)), (2, .sc (.int .i64 m)), (3, .sc (.int .i64 b)), (4, .fn 44 []), (18, .sc (.int .i64 dZ)), (19, .sc (.int .i64 nZ)), (20, .sc (.int .i64 g.1)), (21, .sc (.int .i64 g.2)), (22, .sc (.int .i64 pZ))], [], sM (p ++ A ++ B ++ r), 1⟩) (fun g => g.2 - g.1)
   (fun g => s0 ≤ g.1 ∧ g.1 ≤ g.2 ∧ g.2 ≤ r0 ∧ CutL A B (g.1 - a) (n - g.1 - m) ∧ CutR A B (g.2 - a) (n - g.2 - m)) [0, 1, 2, 3, 4, 18, 19, 20, 21, 22] 1 ?_ ?_
  ·exact ⟨[(0, 0)], (s0, r0), rfl, (by simp only [go_sem, sM_fcs, fcs_norefs] <;> rfl), Nat.le_refl _, g2, Nat.le_refl _, cL0, cR0⟩
  rintro ⟨i, j⟩ ⟨i1, i2, i3, i4, i5⟩
  simp only at i1 i2 i3 i4 i5 ⊢
  obtain ⟨iZ, hiZ⟩ : ∃ z : Int, z = (i : Int) := ⟨_, rfl⟩
  obtain ⟨jZ, hjZ⟩ : ∃ z : Int, z = (j : Int) := ⟨_, rfl⟩
  rw [← hiZ, ← hjZ]
  refine EvC.seq ?_
  refine EvC.a ?_
  by_cases hij : i < j
  rotate_left
  ·refine EvC.cf ?_ (by simp only [go_sem, decide_eq_false (show ¬ iZ < jZ by omega)] <;> rfl)
   refine EvC.exit ?_
   obtain rfl : i = j := by omega
   exact ⟨rfl, [(0, 0)], i, rfl, (by rw [← hiZ]; simp only [go_sem, sM_fcs, fcs_norefs] <;> rfl), i1, i3, i4, i5⟩
  refine EvC.cr ?_ (by simp only [go_sem, decide_eq_true (show iZ < jZ by omega)] <;> rfl)
  refine EvC.block ?_
  have hJ2 : inI64 (iZ + jZ) = true := inI64_of (by omega) (by omega)
  obtain ⟨c, hh⟩ : ∃ h, h = (i + j) / 2 := ⟨_, rfl⟩
  obtain ⟨cZ, hcZ⟩ : ∃ z : Int, z = (c : Int) := ⟨_, rfl⟩
  have hhalf2 : shiftOf .shr .u64 (IntKind.wrap .u64 (iZ + jZ)) 1 = cZ := by rw [half_u (by omega) (by omega)]; omega
  have hJ3 : inI64 cZ = true := inI64_of (by omega) (by omega)
  refine EvC.a ?_ (by simp only [go_sem, hhalf2] <;> rfl) (by simp [hJ2, hJ3])
  have hJ4 : inI64 (pZ - cZ) = true := inI64_of (by omega) (by omega)
  have hca : c - a < A.length := by omega
  have hcb : n - 1 - c - m < B.length := by omega
  have hx0 : ((p ++ A ++ B ++ r).map FA.cells)[cZ.toNat]? = some (A[c - a]).cells := by
   rw [List.getElem?_map, show p ++ A ++ B ++ r = p ++ (A ++ (B ++ r)) by simp, List.getElem?_append_right (by omega), List.getElem?_append_left (by omega), show cZ.toNat - p.length = c - a by omega, List.getElem?_eq_getElem hca]; rfl
  have hy0 : ((p ++ A ++ B ++ r).map FA.cells)[(pZ - cZ).toNat]? = some (B[n - 1 - c - m]).cells := by
   rw [List.getElem?_map, show p ++ A ++ B ++ r = (p ++ A) ++ (B ++ r) by simp, List.getElem?_append_right (by simp; omega), List.getElem?_append_left (by simp; omega), show (pZ - cZ).toNat - (p ++ A).length = n - 1 - c - m by simp; omega, List.getElem?_eq_getElem hcb]; rfl
  have hLn : ((p ++ A ++ B ++ r).map FA.cells).length = N := by rw [List.length_map, ← hN]
  have hSn := fas_norefs2 (p ++ A ++ B ++ r)
  obtain ⟨Z, hZe⟩ : ∃ Z, Z = (p ++ A ++ B ++ r).map FA.cells := ⟨_, rfl⟩
  have hcl := cut_left hA hB hca hcb
  have hcr := cut_right hA hB hca hcb
  generalize A[c - a] = x at hx0 hcl hcr
  generalize B[n - 1 - c - m] = y at hy0 hcl hcr
  rw [← hZe] at hx0 hy0 hLn hSn
  rw [FA.cells] at hx0 hy0
  have q := edge_is y x
  have hlt := edgeI_lt y x
  rw [FA.cells, FA.cells] at q
  generalize edgeI y x = eZ at q hlt
  have hbd : 0 ≤ cZ ∧ cZ.toNat < N ∧ 0 ≤ pZ - cZ ∧ (pZ - cZ).toNat < N := by omega
  rw [sM, ← hZe]
  refine EvC.k1D mixed ?_ (h1 := by simp only [go_sem, hx0, hy0, hLn] <;> rfl) (k1 := by simp [hJ4]; omega) (c1 := .ca q) (h2 := by simp only [go_sem, hlt] <;> rfl)
  cases hc : ltE y x with
  | false =>
    rw [hc] at hlt
    refine EvC.ct ?_ (by simp only [go_sem, hlt] <;> rfl)
    refine EvC.b ?_ (hok := by exact inI64_of (by omega) (by omega))
    have hxy : leE x y = true := by rw [leE, hc]; rfl
    have hk := hcl hxy
    rw [show c - a + 1 = c + 1 - a by omega, show n - 1 - c - m = n - (c + 1) - m by omega] at hk
    exact ⟨[(0, 0)], (c + 1, j), rfl, (by rw [show ((c + 1 : Nat) : Int) = cZ + 1 by omega, ← hjZ]; simp only [go_sem, hSn] <;> rfl), ⟨by omega, by simp only; omega, i3, hk, i5⟩, by simp only; omega⟩
  | true =>
    rw [hc] at hlt
    refine EvC.cf ?_ (by simp only [go_sem, hlt] <;> rfl)
    refine EvC.b ?_
    have hk := hcr hc
    rw [show n - 1 - c - m + 1 = n - c - m by omega] at hk
    exact ⟨[(0, 0)], (i, c), rfl, (by rw [← hiZ, ← hcZ]; simp only [go_sem, hSn] <;> rfl), ⟨i1, by simp only; omega, by simp only; omega, i4, hk⟩, by simp only; omega⟩
 intro s ⟨k1, k2, k3, k4⟩
 obtain ⟨A1, hA1e⟩ : ∃ X, X = A.take (s - a) := ⟨_, rfl⟩
 obtain ⟨A2, hA2e⟩ : ∃ X, X = A.drop (s - a) := ⟨_, rfl⟩
 obtain ⟨B1, hB1e⟩ : ∃ X, X = B.take (n - s - m) := ⟨_, rfl⟩
 obtain ⟨B2, hB2e⟩ : ∃ X, X = B.drop (n - s - m) := ⟨_, rfl⟩
 have hAe : A = A1 ++ A2 := by rw [hA1e, hA2e, List.take_append_drop]
 have hBe : B = B1 ++ B2 := by rw [hB1e, hB2e, List.take_append_drop]
 have la1 : A1.length = s - a := by rw [hA1e, List.length_take]; omega
 have lb1 : B1.length = n - s - m := by rw [hB1e, List.length_take]; omega
 have la2 : A2.length = m - s := by rw [hA2e, List.length_drop]; omega
 have lb2 : B2.length = b - (n - s) := by rw [hB2e, List.length_drop]; omega
 have s1 : SrtE A1 := by rw [hA1e]; exact srt_take hA _
 have s2 : SrtE A2 := by rw [hA2e]; exact srt_drop hA _
 have s3 : SrtE B1 := by rw [hB1e]; exact srt_take hB _
 have s4 : SrtE B2 := by rw [hB2e]; exact srt_drop hB _
 have hsp : srtE (A ++ B) = srtE (A1 ++ B1) ++ srtE (A2 ++ B2) := by
  rw [hAe, hBe]
  refine srtE_split ?_ ?_ ?_ ?_
  ·rw [hA1e, hA2e]; exact srt_cut hA _
  ·rw [hB1e, hB2e]; exact srt_cut hB _
  ·rw [hA1e, hB2e]; exact k3
  ·intro x hx y hy
   rw [hB1e] at hx
   rw [hA2e] at hy
   exact k4 y hy x hx
 rw [hsp]
 have hM0 : p ++ A ++ B ++ r = p ++ A1 ++ A2 ++ B1 ++ (B2 ++ r) := by rw [hAe, hBe]; simp
 have hABl : (A1 ++ B1).length = mid - a := by rw [List.length_append]; omega
 have hAB2 : (A2 ++ B2).length = b - mid := by rw [List.length_append]; omega
 have lS1 : (srtE (A1 ++ B1)).length = mid - a := by rw [srtE_len, hABl]
 obtain ⟨sZ, hsZ⟩ : ∃ z : Int, z = (s : Int) := ⟨_, rfl⟩
 obtain ⟨e, he⟩ : ∃ e, e = n - s := ⟨_, rfl⟩
 obtain ⟨eZ, heZ⟩ : ∃ z : Int, z = (e : Int) := ⟨_, rfl⟩
 have hes : nZ - sZ = eZ := by omega
 have hI6 : inI64 eZ = true := inI64_of (by omega) (by omega)
 rw [hM0, ← hsZ]
 clear cL0 cR0 k3 k4 hA1e hA2e hB1e hB2e
 refine EvC.a ?_ (by simp only [go_sem, hes] <;> rfl) (by simp [hI6])
 refine EvC.mergeS (α := Unit) (fun _ => ⟨[(0, .tv 0 N 0 N (.val N)), (1, .sc (.int .i64 a)), (3, .sc (.int .i64 b)), (4, .fn 44 []), (18, .sc (.int .i64 dZ)), (20, .sc (.int .i64 sZ)), (24, .sc (.int .i64 eZ))], [], sM (p ++ (A1 ++ B1) ++ (A2 ++ B2) ++ r), 1⟩) (fun _ => True) [0, 1, 3, 4, 18, 20, 24] 1 ?_ ?_
 ·by_cases c1 : s < m
  rotate_left
  ·have hA20 : A2 = [] := List.eq_nil_of_length_eq_zero (by omega)
   refine EvC.g ?_ (h := by simp only [go_sem, decide_eq_false (show ¬ sZ < (m : Int) by omega)] <;> rfl)
   refine EvC.cs ?_
   exact ⟨rfl, [(0, 0)], (), rfl, (by rw [show p ++ (A1 ++ B1) ++ (A2 ++ B2) ++ r = p ++ A1 ++ A2 ++ B1 ++ (B2 ++ r) by rw [hA20]; simp]; simp only [go_sem, sM_fcs, fcs_norefs] <;> rfl), trivial⟩
  have d1 : decide (sZ < (m : Int)) = true := decide_eq_true (by omega)
  by_cases c2 : m < e
  rotate_left
  ·have hB10 : B1 = [] := List.eq_nil_of_length_eq_zero (by omega)
   refine EvC.g ?_ (h := by simp only [go_sem, d1, decide_eq_false (show ¬ (m : Int) < eZ by omega)] <;> rfl)
   refine EvC.cs ?_
   exact ⟨rfl, [(0, 0)], (), rfl, (by rw [show p ++ (A1 ++ B1) ++ (A2 ++ B2) ++ r = p ++ A1 ++ A2 ++ B1 ++ (B2 ++ r) by rw [hB10]; simp]; simp only [go_sem, sM_fcs, fcs_norefs] <;> rfl), trivial⟩
  refine EvC.g ?_ (h := by simp only [go_sem, d1, decide_eq_true (show (m : Int) < eZ by omega)] <;> rfl)
  refine EvC.ct ?_
  apply EvC.region
  apply XR.run
  ·simp only [go_sem] <;> rfl
  ·simp
  refine XR.gcTo ⟨[(0, .tv 0 N 0 N (.val N)), (1, .sc (.int .i64 a)), (3, .sc (.int .i64 b)), (4, .fn 44 []), (18, .sc (.int .i64 dZ)), (20, .sc (.int .i64 sZ)), (24, .sc (.int .i64 eZ)), (186, .tv 0 N 0 N (.val N)), (187, .sc (.int .i64 s)), (188, .sc (.int .i64 m)), (189, .sc (.int .i64 e)), (190, .fn 44 [])], [], sM (p ++ A1 ++ A2 ++ B1 ++ (B2 ++ r)), 1⟩ [0, 1, 3, 4, 18, 20, 24, 186, 187, 188, 189, 190] [(0, 0)] rfl (by rw [← hsZ, ← heZ]; simp only [go_sem, sM_fcs, fcs_norefs] <;> rfl) ?_
  apply XR.callI rfl rfl (by simp only [go_sem] <;> rfl) (by simp only [go_sem] <;> rfl) (by simp only [go_sem] <;> rfl)
  have hs := rotate_body (p ++ A1) A2 B1 (B2 ++ r) s m e N (by simp; omega) (by omega) (by omega) (fun h => by rw [h] at la2; simp at la2; omega) (fun h => by rw [h] at lb1; simp at lb1; omega) (by simp; omega) hl
  refine hs.mono fun _ M z h => ?_
  subst h
  refine XR.nil ?_
  exact ⟨rfl, [(0, 0)], (), rfl, (by rw [show p ++ (A1 ++ B1) ++ (A2 ++ B2) ++ r = p ++ A1 ++ B1 ++ A2 ++ (B2 ++ r) by simp]; simp only [go_sem, sM_fcs, fcs_norefs] <;> rfl), trivial⟩
 rintro ⟨⟩ -
 refine EvC.mergeS (α := Unit) (fun _ => ⟨[(0, .tv 0 N 0 N (.val N)), (3, .sc (.int .i64 b)), (4, .fn 44 []), (18, .sc (.int .i64 dZ)), (24, .sc (.int .i64 eZ))], [], sM (p ++ srtE (A1 ++ B1) ++ (A2 ++ B2) ++ r), 1⟩) (fun _ => True) [0, 3, 4, 18, 24] 1 ?_ ?_
 ·by_cases c1 : a < s
  rotate_left
  ·have hA10 : A1 = [] := List.eq_nil_of_length_eq_zero (by omega)
   have hid : srtE (A1 ++ B1) = A1 ++ B1 := by rw [hA10, List.nil_append]; exact srtE_id s3
   refine EvC.g ?_ (h := by simp only [go_sem, decide_eq_false (show ¬ (a : Int) < sZ by omega)] <;> rfl)
   refine EvC.cs ?_
   exact ⟨rfl, [(0, 0)], (), rfl, (by rw [hid]; simp only [go_sem, sM_fcs, fcs_norefs] <;> rfl), trivial⟩
  have d1 : decide ((a : Int) < sZ) = true := decide_eq_true (by omega)
  by_cases c2 : s < mid
  rotate_left
  ·have hB10 : B1 = [] := List.eq_nil_of_length_eq_zero (by omega)
   have hid : srtE (A1 ++ B1) = A1 ++ B1 := by rw [hB10, List.append_nil]; exact srtE_id s1
   refine EvC.g ?_ (h := by simp only [go_sem, d1, decide_eq_false (show ¬ sZ < dZ by omega)] <;> rfl)
   refine EvC.cs ?_
   exact ⟨rfl, [(0, 0)], (), rfl, (by rw [hid]; simp only [go_sem, sM_fcs, fcs_norefs] <;> rfl), trivial⟩
  refine EvC.g ?_ (h := by simp only [go_sem, d1, decide_eq_true (show sZ < dZ by omega)] <;> rfl)
  refine EvC.ct ?_
  apply EvC.region
  apply XR.run
  ·simp only [go_sem] <;> rfl
  ·simp
  refine XR.gcTo ⟨[(0, .tv 0 N 0 N (.val N)), (3, .sc (.int .i64 b)), (4, .fn 44 []), (18, .sc (.int .i64 dZ)), (24, .sc (.int .i64 eZ)), (200, .tv 0 N 0 N (.val N)), (201, .sc (.int .i64 a)), (202, .sc (.int .i64 s)), (203, .sc (.int .i64 mid)), (204, .fn 44 [])], [], sM (p ++ (A1 ++ B1) ++ (A2 ++ B2) ++ r), 1⟩ [0, 3, 4, 18, 24, 200, 201, 202, 203, 204] [(0, 0)] rfl (by rw [← hsZ, ← hdZ]; simp only [go_sem, sM_fcs, fcs_norefs] <;> rfl) ?_
  apply XR.callI rfl rfl (by simp only [go_sem] <;> rfl) (by simp only [go_sem] <;> rfl) (by simp only [go_sem] <;> rfl)
  have hs := ih p A1 B1 ((A2 ++ B2) ++ r) a s mid N ha (by omega) (by omega) (fun h => by rw [h] at la1; simp at la1; omega) (fun h => by rw [h] at lb1; simp at lb1; omega) s1 s3 (by simp; omega) hl (by omega)
  rw [show p ++ A1 ++ B1 ++ (A2 ++ B2 ++ r) = p ++ (A1 ++ B1) ++ (A2 ++ B2) ++ r by simp] at hs
  refine hs.mono fun _ M z h => ?_
  subst h
  refine XR.nil ?_
  exact ⟨rfl, [(0, 0)], (), rfl, (by rw [show p ++ srtE (A1 ++ B1) ++ (A2 ++ B2) ++ r = p ++ srtE (A1 ++ B1) ++ (A2 ++ B2 ++ r) by simp]; simp only [go_sem, sM_fcs, fcs_norefs] <;> rfl), trivial⟩
 rintro ⟨⟩ -
 have hend : p ++ (srtE (A1 ++ B1) ++ srtE (A2 ++ B2)) ++ r = (p ++ srtE (A1 ++ B1)) ++ srtE (A2 ++ B2) ++ r := by simp
 by_cases c1 : mid < e
 rotate_left
 ·have hA20 : A2 = [] := List.eq_nil_of_length_eq_zero (by omega)
  have hid : srtE (A2 ++ B2) = A2 ++ B2 := by rw [hA20, List.nil_append]; exact srtE_id s4
  refine EvC.g ?_ (h := by simp only [go_sem, decide_eq_false (show ¬ dZ < eZ by omega)] <;> rfl)
  refine EvC.cs ?_
  refine ⟨.inr rfl, _, rfl, ?_⟩
  rw [hend, hid]; rfl
 have d1 : decide (dZ < eZ) = true := decide_eq_true (by omega)
 by_cases c2 : e < b
 rotate_left
 ·have hB20 : B2 = [] := List.eq_nil_of_length_eq_zero (by omega)
  have hid : srtE (A2 ++ B2) = A2 ++ B2 := by rw [hB20, List.append_nil]; exact srtE_id s2
  refine EvC.g ?_ (h := by simp only [go_sem, d1, decide_eq_false (show ¬ eZ < (b : Int) by omega)] <;> rfl)
  refine EvC.cs ?_
  refine ⟨.inr rfl, _, rfl, ?_⟩
  rw [hend, hid]; rfl
 refine EvC.g ?_ (h := by simp only [go_sem, d1, decide_eq_true (show eZ < (b : Int) by omega)] <;> rfl)
 refine EvC.ct ?_
 apply EvC.region
 apply XR.run
 ·simp only [go_sem] <;> rfl
 ·simp
 refine XR.gcTo ⟨[(214, .tv 0 N 0 N (.val N)), (215, .sc (.int .i64 mid)), (216, .sc (.int .i64 e)), (217, .sc (.int .i64 b)), (218, .fn 44 [])], [], sM (p ++ srtE (A1 ++ B1) ++ (A2 ++ B2) ++ r), 1⟩ [214, 215, 216, 217, 218] [(0, 0)] rfl (by rw [← heZ, ← hdZ]; simp only [go_sem, sM_fcs, fcs_norefs] <;> rfl) ?_
 apply XR.callI rfl rfl (by simp only [go_sem] <;> rfl) (by simp only [go_sem] <;> rfl) (by simp only [go_sem] <;> rfl)
 have hs := ih (p ++ srtE (A1 ++ B1)) A2 B2 r mid e b N (by simp [lS1]; omega) (by omega) (by omega) (fun h => by rw [h] at la2; simp at la2; omega) (fun h => by rw [h] at lb2; simp at lb2; omega) s2 s4 (by simp [lS1]; omega) hl (by omega)
 rw [show p ++ srtE (A1 ++ B1) ++ A2 ++ B2 ++ r = p ++ srtE (A1 ++ B1) ++ (A2 ++ B2) ++ r by simp] at hs
 refine hs.mono fun _ M z h => ?_
 subst h
 refine XR.nil ?_
 refine ⟨.inr rfl, _, rfl, ?_⟩
 rw [hend]; rfl
theorem merge_ok : ∀ K, MergeOk K
 | 0 => fun p A B r a m b N _ _ _ hA0 _ _ _ _ _ hK => by
   have := List.length_pos_iff.2 hA0; omega
 | K + 1 => fun p A B r a m b N ha hm hb hA0 hB0 hA hB hN hl hK => by
   have h1 := List.length_pos_iff.2 hA0
   have h2 := List.length_pos_iff.2 hB0
   by_cases c1 : A.length = 1
   ·obtain ⟨x, rfl⟩ : ∃ x, A = [x] := by
      match A, c1 with
      | [x], _ => exact ⟨x, rfl⟩
    exact merge1_body p B r x a m b N ha hm hb hB hN hl
   by_cases c2 : B.length = 1
   ·obtain ⟨y, rfl⟩ : ∃ x, B = [x] := by
      match B, c2 with
      | [x], _ => exact ⟨x, rfl⟩
    exact merge2_body p A r y a m b N ha hm hb hA c1 hN hl
   exact merge3_body p A B r a m b N ha hm hb hA hB (by omega) (by omega) hN hl fun p' A' B' r' a' m' b' N' e1 e2 e3 e4 e5 e6 e7 e8 e9 e10 => merge_ok K p' A' B' r' a' m' b' N' e1 e2 e3 e4 e5 e6 e7 e8 e9 (by omega)
end Go.Avl
