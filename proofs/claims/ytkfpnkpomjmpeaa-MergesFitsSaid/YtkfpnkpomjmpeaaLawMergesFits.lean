/-
  Lemmas.
  A call that freezes an object lent to it: its result may be that object.
  Lemmas.
  Lemmas.
  Lemmas.
  Lemmas.
  Lemmas.
  Lemmas.
  Lemmas.
  Lemmas.
  Lemmas.
  MergesFits returns true at every input, and each argument reads behind the call as it read before.
-/
import Derived.Test.YtkfpnkpomjmpeaaPart9
set_option linter.unusedSimpArgs false
set_option linter.unusedVariables false
set_option linter.unnecessarySimpa false
set_option linter.deprecated false
namespace Go.Avl
open Go Go.Proofs.Try
set_option maxRecDepth 10000
set_option linter.unusedSimpArgs false
theorem TV.short {t : Mach} (v : TV t) : ∀ r ∈ t.rows, r.2.length < 1000000 := fun r hr => by
 obtain ⟨i, hi, rfl⟩ := List.mem_iff_getElem.1 hr
 have := (v.row i _ (List.getElem?_eq_getElem hi)).1
 have := v.ins
 omega
end Go.Avl
namespace Go.Avl
open Go
section
variable {P : Program} {fr : Fr} {ro : Option Nat} {ds : DS} {st st' : St} {G G' : Nat → Option Value} {F F' : Nat → Nat → Prop} {a : Act} {w w' : World} {c : Code}
 {M : Mem} {ops : Array Oper} {l rest : List Oper} {o : Oper} {id N : Nat} {rd : List Nat}
theorem OpIs.callFz {f : FuncId} {callee : Operand} {args : Array Operand} {tys : Array TypeId} {i esz : Nat} {es : List (List AV)} {fz : Bool} {xs : List AV} {r : AV} (hg : o.guard = none) (hop : o.op = .call ⟨.value callee, args, tys⟩) (hd : dok fr o.dst = true)
  (hcal : od fr st true callee = .fn f []) (ho : mlook st.mem i = some (.arr esz es fz)) (hes : es.all AV.norefs = true)
  (hxs : (args.toList.map fun x => AV.deep (snap [(i, .arr esz es true)]) (od fr st true x)) = xs) (hn : AV.norefs xs = true) (hrn : r.noref = true)
  (hrd : opSlots o.op.operands.toList ++ [2 * i + 1] = rd) (hc : PureIs P f xs r) : OpIs P fr ro ds ops id st ⟨o, ⟨r, some (i, .arr esz es true)⟩, rd⟩ := by
 intro st' G F a w N K Q1 s hN hG hlk h
 simp only [Region.wanted, hg, if_true]
 have hslot : ∀ x ∈ o.op.operands.toList, opnd fr st' x = opnd fr st x := fun x hx => by
  cases x with
  | tmp t => exact look_slot (hlk _ (by simp only; rw [← hrd]; exact List.mem_append_left _ (opSlots_mem hx)))
  | _ => rfl
 rw [hop] at hslot
 have hod : ∀ z, z = callee ∨ z ∈ args.toList → od fr st' true z = od fr st true z := fun z hz => by
  unfold od; rw [hslot z (by simp only [Op.operands, Call.operands]; simpa using hz)]
 have ho' : mlook st'.mem i = some (.arr esz es fz) := by rw [← ho]; exact look_obj (hlk _ (by simp only; rw [← hrd]; simp))
 refine ⟨fun _ _ => trivial, ?_⟩
 rw [Oper.semAt_eq _ _ _ (by rw [hop]; intro c h; cases h)]
 have hv := (s.eval callee).unopt
 have hv : RV G F st'.mem w (a.eval callee) (.fn f []) := by have := hod callee (.inl rfl); unfold od at this hcal; rwa [this, hcal] at hv
 obtain ⟨vs, hev, hll, _⟩ := hv.inv_fn
 have hvs : vs = [] := by cases vs with
  | nil => rfl
  | cons a l => simp at hll
 subst hvs
 obtain ⟨F1, hm1, S1⟩ := simM_frz s.mem ho' hes
 have hrun : (execOp a.eval o).run P w = .ok (.enter f ((args.toList.map a.eval).toArray)) w := by
  obtain ⟨dst, op, ty, pos, after, guard⟩ := o
  simp only at hop
  subst hop
  simp only [execOp, resolve, hev, Deferred.ofValue, Sem.run_bind, Sem.run_pure, Result.andThen_ok, invoke]
  rw [hc.1]
  congr 2
  apply Array.ext'
  simp
 rw [hrun]
 have hlk1 : mlook (mset st'.mem i (.arr esz es true)) i = some (.arr esz es true) := by rw [mlook_mset, if_pos rfl]
 have hi : Imms F1 w (args.toList.map a.eval) xs := by
  have hall : ∀ x ∈ xs, x.noref = true := by
   clear hxs hc
   induction xs with
   | nil => intro x hx; cases hx
   | cons y ys ih =>
     simp only [AV.norefs, Bool.and_eq_true] at hn
     intro x hx
     rcases List.mem_cons.1 hx with rfl | hx
     ·exact hn.1
     ·exact ih hn.2 x hx
  subst hxs
  refine ⟨by simp, fun j h1 h2 => ?_⟩
  have hj : j < args.toList.length := by simpa using h1
  have hr : RV G F1 (mset st'.mem i (.arr esz es true)) w (a.eval args.toList[j]) (AV.deep (snap [(i, .arr esz es true)]) (od fr st true args.toList[j])) := by
   have h0 := (s.eval args.toList[j]).unopt
   have he := hod args.toList[j] (.inr (List.getElem_mem hj))
   unfold od at he ⊢
   rw [he] at h0
   exact (h0.step S1 fun _ _ => trivial).deep fun v y h => snap_one (fz := true) hlk1 (fun v y h => h.snap hm1) h
  simp only [List.getElem_map]
  exact hr.imm_of (hall _ (by exact List.mem_map.2 ⟨_, List.getElem_mem hj, rfl⟩))
 refine ⟨fun h => by simp [fc, Fence.wide] at h, callsIn_fc ((hc.2 F1 w _ hm1.fok hi).mono ?_)⟩
 rintro e w' ⟨v, F', rfl, hv, g⟩
 obtain ⟨hm', S'⟩ := simM_grown hm1 g
 obtain ⟨s1, S2⟩ := s.put (d := o.dst) (r := ⟨r, some (i, .arr esz es true)⟩) (u := v) hm' (fun _ => rfl) (S1.trans S') hd (.imm hv)
 exact h G _ _ w' s1 S2 (fun _ _ h => h)
end
end Go.Avl
namespace Go.Avl
open Go Go.Proofs.Try
set_option maxRecDepth 10000
set_option linter.unusedSimpArgs false
structure TG (t : Mach) : Prop where
 ins : 1 ≤ t.ins ∧ t.ins ≤ 16
 rows : 1 ≤ t.rows.length ∧ t.rows.length ≤ 65537
 row : ∀ (i : Nat) (r : Row), t.rows[i]? = some r → (r.2.length : Int) = t.ins ∧ ∀ e ∈ r.2, e.1 = -1 ∨ (1 ≤ e.1 ∧ e.1 < t.rows.length)
theorem TV.tg {t : Mach} (v : TV t) : TG t := ⟨v.ins, v.rows, fun i r h => ⟨(v.row i r h).1, fun e he => by
 rcases (v.row i r h).2 e he with h1 | h1
 ·exact .inl h1.1
 ·exact .inr ⟨by omega, h1.2.1⟩⟩⟩
theorem TG.get {t : Mach} (v : TG t) {n i : Nat} (hn : n < t.rows.length) (hi : (i : Int) < t.ins) : ∃ A : Row, t.rows[n]? = some A ∧ (A.2.length : Int) = t.ins ∧ A.2[i]? = some (eT t n i) ∧ ((eT t n i).1 = -1 ∨ (1 ≤ (eT t n i).1 ∧ (eT t n i).1 < t.rows.length)) := by
 have hg : t.rows[n]? = some (t.rows[n]) := List.getElem?_eq_getElem hn
 have hl := v.row n _ hg
 have he : (t.rows[n]).2[i]? = some (eT t n i) := by
  rw [eT, hg]
  simp only [Option.map_some, Option.getD_some]
  rw [List.getElem?_eq_getElem (by omega)]; rfl
 exact ⟨t.rows[n], hg, hl.1, he, hl.2 _ (List.mem_of_getElem? he)⟩
structure WS where
 seen : List Bool
 out : List (List Nat)
 many : Nat
def WS.has (s : WS) (n : Nat) : Bool := (s.seen[n]?).getD false
def WS.wd (s : WS) (n : Nat) : List Nat := (s.out[n]?).getD []
def WS.put (s : WS) (to n i : Nat) : WS := ⟨s.seen.set to true, s.out.set to (s.wd n ++ [i]), s.many + 1⟩
def wE (t : Mach) (r n : Nat) : Nat → Nat → WS → Option WS
 | 0, _, s => some s
 | d + 1, i, s => if s.has n = true ∧ (s.wd n).length = r then
     if (eT t n i).1 = -1 then wE t r n d (i + 1) s
     else if s.has (eT t n i).1.toNat = true then none
     else wE t r n d (i + 1) (s.put (eT t n i).1.toNat n i)
   else some s
def wN (t : Mach) (r : Nat) : Nat → Nat → WS → Option WS
 | 0, _, s => some s
 | d + 1, n, s => match wE t r n t.ins.toNat 0 s with
   | none => none
   | some s' => wN t r d (n + 1) s'
def wR (t : Mach) : Nat → Nat → WS → Option WS
 | 0, _, s => some s
 | d + 1, r, s => match wN t r t.rows.length 0 s with
   | none => none
   | some s' => if s'.many = s.many then some s' else wR t d (r + 1) s'
def ws0 (N : Nat) : WS := ⟨(List.replicate N false).set 0 true, List.replicate N [], 1⟩
def wordsR (t : Mach) : Option (List (List Nat)) := match wR t t.rows.length 0 (ws0 t.rows.length) with
 | none => none
 | some s => if s.many < t.rows.length then none else some s.out
structure WS.Ok (s : WS) (N : Nat) : Prop where
 seen : s.seen.length = N
 out : s.out.length = N
 many : s.many = s.seen.countP (fun b => b)
 le : ∀ w ∈ s.out, w.length ≤ N
theorem WS.Ok.le_many {s : WS} {N : Nat} (h : s.Ok N) : s.many ≤ N := by
 rw [h.many, ← h.seen]; exact List.countP_le_length
theorem WS.Ok.has_get {s : WS} {N n : Nat} (h : s.Ok N) (hn : n < N) : s.seen[n]? = some (s.has n) := by
 unfold WS.has
 rw [List.getElem?_eq_getElem (by rw [h.seen]; exact hn)]; rfl
theorem WS.Ok.wd_get {s : WS} {N n : Nat} (h : s.Ok N) (hn : n < N) : s.out[n]? = some (s.wd n) := by
 unfold WS.wd
 rw [List.getElem?_eq_getElem (by rw [h.out]; exact hn)]; rfl
theorem WS.Ok.wd_le {s : WS} {N n : Nat} (h : s.Ok N) : (s.wd n).length ≤ N := by
 unfold WS.wd
 cases hk : s.out[n]? with
 | none => simp
 | some w => exact h.le w (List.mem_of_getElem? hk)
theorem ws0_ok {N : Nat} (h : 1 ≤ N) : (ws0 N).Ok N := by
 refine ⟨by simp [ws0], by simp [ws0], ?_, fun w hw => ?_⟩
 ·obtain ⟨M, rfl⟩ : ∃ M, N = M + 1 := ⟨N - 1, by omega⟩
  unfold ws0
  simp only [List.replicate_succ, List.set_cons_zero, List.countP_cons, List.countP_replicate]
  simp
 ·rw [List.eq_of_mem_replicate hw]; simp
theorem WS.Ok.put {s : WS} {N to n i : Nat} (h : s.Ok N) (ht : to < N) (hs : s.has to = false) (hl : (s.wd n).length < N) : (s.put to n i).Ok N := by
 refine ⟨by simp [WS.put, h.seen], by simp [WS.put, h.out], ?_, fun w hw => ?_⟩
 ·have h1 := h.has_get ht
  rw [hs] at h1
  have h2 : s.seen[to]'(by rw [h.seen]; exact ht) = false := by
   rw [List.getElem?_eq_getElem (by rw [h.seen]; exact ht)] at h1
   exact Option.some.inj h1
  simp only [WS.put]
  rw [List.countP_set (by rw [h.seen]; exact ht), h2, h.many]
  simp
 ·rcases List.mem_or_eq_of_mem_set hw with h1 | h1
  ·exact h.le w h1
  ·rw [h1]; simp; omega
def bC (b : Bool) : List AV := [.sc (.bool b)]
def wCp (w : List Nat) : Cp := if w = [] then .zer else .unk
def wA (w : List Nat) : List AV := [.sl w.isEmpty (w.map natC) (wCp w)]
def wordsA : Option (List (List Nat)) → AV
 | none => .sl true [] .unk
 | some l => .sl false (l.map wA) .full
attribute [go_sem] wordsA
theorem norefs_bC (l : List Bool) : (l.map bC).all AV.norefs = true := by simp [List.all_eq_true, bC, AV.norefs, AV.noref]
theorem norefs_wA (l : List (List Nat)) : (l.map wA).all AV.norefs = true := by
 simp only [List.all_eq_true, List.mem_map]
 rintro _ ⟨w, _, rfl⟩
 rfl
end Go.Avl
namespace Go.Avl
open Go Go.Proofs.Try
set_option maxRecDepth 10000
set_option linter.unusedSimpArgs false
set_option maxHeartbeats 8000000 in
theorem words56_is {t : Mach} (v : TG t) : PureIs prog 56 [.ag t.cells] (wordsA (wordsR t)) := by
 have hrw := v.rows
 have hin := v.ins
 obtain ⟨N, hN⟩ : ∃ N, N = t.rows.length := ⟨_, rfl⟩
 have hNi : ((N : Int)).toNat = N := Int.toNat_natCast N
 have hr0 : room N 8 = true := by simp only [room_eq, decide_eq_true_eq]; omega
 have hr1 : room N 24 = true := by simp only [room_eq, decide_eq_true_eq]; omega
 have hr2 : room N 1 = true := by simp only [room_eq, decide_eq_true_eq]; omega
 have dz := decide_eq_false (show ¬ (N : Int) = 0 by omega)
 have hW : ∀ s, wR t N 0 (ws0 N) = some s → wordsR t = if s.many < N then none else some s.out := fun s h => by unfold wordsR; rw [← hN, h]
 have hW0 : wR t N 0 (ws0 N) = none → wordsR t = none := fun h => by unfold wordsR; rw [← hN, h]
 generalize wordsR t = Wres at hW hW0
 refine PureIs.of (nv := 11) (hid := [14, 18, 22, 29, 37, 58, 71, 75, 95, 100]) func56 rfl (by kernel_rfl) (by simp [ntmps56]) fun _ => ?_
 rw [ntmps56, results56]
 refine EvC.seq (EvC.rg (by simp only [go_sem, Mach.cells] <;> rfl) (by simp) ?_)
 refine EvC.frzB 0 (by simp only [go_sem] <;> rfl) ?_
 refine EvC.seq ?_
 refine EvC.seq (EvC.rg (by simp only [go_sem, List.length_map, hN.symm, dz] <;> rfl) (by simp) ?_)
 refine EvC.cond_false (by simp only [go_sem] <;> rfl) ?_
 refine EvC.skip ?_
 refine EvC.seq (EvC.rg (by simp only [go_sem, List.length_map, hN.symm, hNi] <;> rfl) (by simp; exact hr1) ?_)
 refine EvC.seq (EvC.rg (by simp only [go_sem, List.length_map, hN.symm, hNi] <;> rfl) (by simp; exact hr2) ?_)
 have hrep : (List.replicate N [AV.sc (.bool false)])[0]? = some [.sc (.bool false)] := by rw [List.getElem?_replicate, if_pos (by omega)]
 refine EvC.seq (EvC.rg (by simp only [go_sem, hrep, List.length_replicate] <;> rfl) (by simp; try omega) ?_)
 refine EvC.seq (EvC.rg (by simp only [go_sem] <;> rfl) (by simp) ?_)
 refine EvC.seq ?_
 refine EvC.seq (EvC.rg (by simp only [go_sem] <;> rfl) (by simp) ?_)
 refine EvC.block ?_
 refine EvC.loopS (σ := Nat × WS) (fun g => ⟨[(1, .ia t.cells), (3, .tv 0 N 0 N (.val N)), (4, .tv 1 N 0 N (.val N)), (5, .sc (.int .i64 g.2.many)), (6, .sc (.int .i64 g.1))], [], [(0, .arr 1 (g.2.out.map wA) false), (1, .arr 1 (g.2.seen.map bC) false)], 2⟩) (fun g => N - g.1)
  (fun g => g.1 ≤ N ∧ g.2.Ok N ∧ wR t N 0 (ws0 N) = wR t (N - g.1) g.1 g.2) [1, 3, 4, 5, 6] 2 ?_ ?_
 ·refine ⟨[(9, 0), (14, 1)], (0, ws0 N), rfl, ?_, Nat.zero_le _, ws0_ok (by omega), rfl⟩
  have hw0 : ((ws0 N).out).map wA = List.replicate N [.sl true [] .zer] := by simp only [ws0, List.map_replicate]; rfl
  have hb0 : ((ws0 N).seen).map bC = (List.replicate N [AV.sc (.bool false)]).set 0 [.sc (.bool true)] := by simp only [ws0, List.map_set, List.map_replicate]; rfl
  have hm0 : (ws0 N).many = 1 := rfl
  simp only
  rw [hw0, hb0, hm0]
  have hnz : (List.replicate N [AV.sl true [] .zer]).all AV.norefs = true := by simp [List.all_eq_true, AV.norefs, AV.noref]
  have hnb : ((List.replicate N [AV.sc (.bool false)]).set 0 [.sc (.bool true)]).all AV.norefs = true := by
   rw [← hb0]; exact norefs_bC _
  simp only [go_sem, Mach.cells, hnz, hnb] <;> rfl
 rintro ⟨r, s⟩ ⟨h1, h2, h3⟩
 simp only at h1 h2 h3 ⊢
 have hmany := h2.le_many
 refine EvC.seq ?_
 refine EvC.seq (EvC.rg (by simp only [go_sem, Mach.cells, List.length_map, hN.symm] <;> rfl) (by simp) ?_)
 refine EvC.cond (by simp only [go_sem] <;> rfl) (fun hc => ?_) (fun hc => ?_)
 rotate_left
 ·
  have hc : ¬ r < N := by simpa using hc
  obtain rfl : r = N := by omega
  rw [Nat.sub_self, wR] at h3
  have hW := hW _ h3
  refine EvC.exit ?_
  refine EvC.seq ?_
  refine EvC.seq (EvC.rg (by simp only [go_sem, Mach.cells, List.length_map, hN.symm] <;> rfl) (by simp) ?_)
  by_cases hq : s.many < r
  ·rw [if_pos hq] at hW
   subst hW
   refine EvC.cond_true (by simp only [go_sem, decide_eq_true (show (s.many : Int) < r by omega)] <;> rfl) ?_
   refine EvC.seq (EvC.rg (by simp only [go_sem] <;> rfl) (by simp) ?_)
   refine EvC.ret ⟨.inl rfl, _, (by simp only [go_sem] <;> rfl), ?_, rfl⟩
   simp only [go_sem]
  rw [if_neg hq] at hW
  subst hW
  refine EvC.cond_false (by simp only [go_sem, decide_eq_false (show ¬ (s.many : Int) < r by omega)] <;> rfl) ?_
  refine EvC.skip ?_
  refine EvC.frz 0 (by simp only [go_sem, List.length_map, h2.out, norefs_wA] <;> rfl) ?_
  refine EvC.seq (EvC.rg (by simp only [go_sem] <;> rfl) (by simp) ?_)
  refine EvC.ret ⟨.inl rfl, _, (by simp only [go_sem] <;> rfl), ?_, rfl⟩
  simp only [go_sem]
 have hrN : r < N := by simpa using hc
 clear hc
 have hd : N - r = (N - (r + 1)) + 1 := by omega
 rw [hd, wR] at h3
 refine EvC.skip ?_
 refine EvC.seq ?_
 refine EvC.block ?_
 refine EvC.seq (EvC.rg (by simp only [go_sem] <;> rfl) (by simp) ?_)
 refine EvC.seq ?_
 refine EvC.seq (EvC.rg (by simp only [go_sem] <;> rfl) (by simp) ?_)
 refine EvC.block ?_
 obtain ⟨s0, hs0⟩ : ∃ s0, s0 = s := ⟨_, rfl⟩
 refine EvC.loopS (σ := Nat × WS) (fun g => ⟨[(1, .ia t.cells), (3, .tv 0 N 0 N (.val N)), (4, .tv 1 N 0 N (.val N)), (5, .sc (.int .i64 g.2.many)), (6, .sc (.int .i64 r)), (7, .sc (.int .i64 s0.many)), (8, .sc (.int .i64 g.1))], [], [(0, .arr 1 (g.2.out.map wA) false), (1, .arr 1 (g.2.seen.map bC) false)], 2⟩) (fun g => N - g.1)
  (fun g => g.1 ≤ N ∧ g.2.Ok N ∧ wN t r t.rows.length 0 s0 = wN t r (N - g.1) g.1 g.2) [1, 3, 4, 5, 6, 7, 8] 2 ?_ ?_
 ·refine ⟨[(0, 0), (1, 1)], (0, s), rfl, ?_, Nat.zero_le _, h2, by rw [hs0, hN]; rfl⟩
  subst hs0
  simp only [go_sem, norefs_bC, norefs_wA] <;> rfl
 rw [← hs0] at h3
 clear hs0 h2 s hmany
 rintro ⟨n, s⟩ ⟨g1, h2, g3⟩
 simp only at g1 h2 g3 ⊢
 have hmany := h2.le_many
 refine EvC.seq ?_
 refine EvC.seq (EvC.rg (by simp only [go_sem, Mach.cells, List.length_map, hN.symm] <;> rfl) (by simp) ?_)
 refine EvC.cond (by simp only [go_sem] <;> rfl) (fun hc => ?_) (fun hc => ?_)
 rotate_left
 ·
  have hc : ¬ n < N := by simpa using hc
  obtain rfl : n = N := by omega
  rw [Nat.sub_self, wN] at g3
  rw [g3] at h3
  refine EvC.exit ?_
  refine EvC.seq (EvC.rg (by simp only [go_sem] <;> rfl) (by simp) ?_)
  simp only at h3
  by_cases hq : s.many = s0.many
  ·rw [if_pos hq] at h3
   refine EvC.cond_true (by simp only [go_sem, decide_eq_true (show (s.many : Int) = s0.many by omega)] <;> rfl) ?_
   refine EvC.exit ?_
   have hW := hW _ h3
   refine EvC.seq ?_
   refine EvC.seq (EvC.rg (by simp only [go_sem, Mach.cells, List.length_map, hN.symm] <;> rfl) (by simp) ?_)
   by_cases hq : s.many < n
   ·rw [if_pos hq] at hW
    subst hW
    refine EvC.cond_true (by simp only [go_sem, decide_eq_true (show (s.many : Int) < n by omega)] <;> rfl) ?_
    refine EvC.seq (EvC.rg (by simp only [go_sem] <;> rfl) (by simp) ?_)
    refine EvC.ret ⟨.inl rfl, _, (by simp only [go_sem] <;> rfl), ?_, rfl⟩
    simp only [go_sem]
   rw [if_neg hq] at hW
   subst hW
   refine EvC.cond_false (by simp only [go_sem, decide_eq_false (show ¬ (s.many : Int) < n by omega)] <;> rfl) ?_
   refine EvC.skip ?_
   refine EvC.frz 0 (by simp only [go_sem, List.length_map, h2.out, norefs_wA] <;> rfl) ?_
   refine EvC.seq (EvC.rg (by simp only [go_sem] <;> rfl) (by simp) ?_)
   refine EvC.ret ⟨.inl rfl, _, (by simp only [go_sem] <;> rfl), ?_, rfl⟩
   simp only [go_sem]
  rw [if_neg hq] at h3
  refine EvC.cond_false (by simp only [go_sem, decide_eq_false (show ¬ (s.many : Int) = s0.many by omega)] <;> rfl) ?_
  refine EvC.skip ?_
  refine EvC.rg (by simp only [go_sem] <;> rfl) (by exact inI64_of (by omega) (by omega)) ?_
  exact ⟨[(0, 0), (1, 1)], (r + 1, s), rfl, (by simp only [go_sem, Int.natCast_add, Int.natCast_one, norefs_bC, norefs_wA] <;> rfl), ⟨hrN, h2, h3⟩, by simp only; omega⟩
 have hnN : n < N := by simpa using hc
 clear hc
 have hd2 : N - n = (N - (n + 1)) + 1 := by omega
 rw [hd2, wN] at g3
 refine EvC.skip ?_
 refine EvC.seq ?_
 refine EvC.block ?_
 refine EvC.seq (EvC.rg (by simp only [go_sem] <;> rfl) (by simp) ?_)
 refine EvC.block ?_
 obtain ⟨s1, hs1⟩ : ∃ s1, s1 = s := ⟨_, rfl⟩
 refine EvC.loopS (σ := Nat × WS) (fun g => ⟨[(1, .ia t.cells), (3, .tv 0 N 0 N (.val N)), (4, .tv 1 N 0 N (.val N)), (5, .sc (.int .i64 g.2.many)), (6, .sc (.int .i64 r)), (7, .sc (.int .i64 s0.many)), (8, .sc (.int .i64 n)), (9, .sc (.int .i64 g.1))], [], [(0, .arr 1 (g.2.out.map wA) false), (1, .arr 1 (g.2.seen.map bC) false)], 2⟩) (fun g => t.ins.toNat - g.1)
  (fun g => (g.1 : Int) ≤ t.ins ∧ g.2.Ok N ∧ wE t r n t.ins.toNat 0 s1 = wE t r n (t.ins.toNat - g.1) g.1 g.2) [1, 3, 4, 5, 6, 7, 8, 9] 2 ?_ ?_
 ·refine ⟨[(0, 0), (1, 1)], (0, s), rfl, ?_, by simp only; omega, h2, by rw [hs1]; rfl⟩
  simp only [go_sem, norefs_bC, norefs_wA] <;> rfl
 rw [← hs1] at g3
 clear hs1 h2 s hmany
 rintro ⟨i, s⟩ ⟨f1, h2, f3⟩
 simp only at f1 h2 f3 ⊢
 have hmany := h2.le_many
 have hnin : (n : Int).toNat = n := Int.toNat_natCast n
 have hiin : (i : Int).toNat = i := Int.toNat_natCast i
 have hgs : (s.seen.map bC)[n]? = some (bC (s.has n)) := by rw [List.getElem?_map, h2.has_get hnN]; rfl
 have hgo : (s.out.map wA)[n]? = some (wA (s.wd n)) := by rw [List.getElem?_map, h2.wd_get hnN]; rfl
 have hls : (s.seen.map bC).length = N := by rw [List.length_map, h2.seen]
 have hlo : (s.out.map wA).length = N := by rw [List.length_map, h2.out]
 have hwl := h2.wd_le (n := n)
 refine EvC.seq ?_
 apply EvC.seq
 apply EvC.trd
 ·simp only [go_sem, Mach.cells, hgs, hgo, hls, hlo, hnin, bC, wA, List.length_map] <;> rfl
 ·simp; try omega
 by_cases c1 : (i : Int) < t.ins
 rotate_left
 ·have d1 := decide_eq_false c1
  rw [show t.ins.toNat - i = 0 by omega, wE] at f3
  rw [f3] at g3
  refine EvC.cond_false (by simp only [go_sem, d1] <;> rfl) ?_
  refine EvC.exit ?_
  refine EvC.rg (by simp only [go_sem] <;> rfl) (by exact inI64_of (by omega) (by omega)) ?_
  exact ⟨[(0, 0), (1, 1)], (n + 1, s), rfl, (by simp only [go_sem, Int.natCast_add, Int.natCast_one, norefs_bC, norefs_wA] <;> rfl), ⟨hnN, h2, g3⟩, by simp only; omega⟩
 have d1 := decide_eq_true c1
 rw [show t.ins.toNat - i = (t.ins.toNat - (i + 1)) + 1 by omega, wE] at f3
 cases c2 : s.has n with
 | false =>
   rw [c2, if_neg (by simp)] at f3
   rw [f3] at g3
   refine EvC.cond_false (by simp only [go_sem, d1, c2] <;> rfl) ?_
   refine EvC.exit ?_
   refine EvC.rg (by simp only [go_sem] <;> rfl) (by exact inI64_of (by omega) (by omega)) ?_
   exact ⟨[(0, 0), (1, 1)], (n + 1, s), rfl, (by simp only [go_sem, Int.natCast_add, Int.natCast_one, norefs_bC, norefs_wA] <;> rfl), ⟨hnN, h2, g3⟩, by simp only; omega⟩
 | true =>
 rw [c2] at f3
 by_cases c3 : (s.wd n).length = r
 rotate_left
 ·rw [if_neg (fun h => c3 h.2)] at f3
  rw [f3] at g3
  refine EvC.cond_false (by simp only [go_sem, d1, c2, decide_eq_false (show ¬ ((s.wd n).length : Int) = r by omega)] <;> rfl) ?_
  refine EvC.exit ?_
  refine EvC.rg (by simp only [go_sem] <;> rfl) (by exact inI64_of (by omega) (by omega)) ?_
  exact ⟨[(0, 0), (1, 1)], (n + 1, s), rfl, (by simp only [go_sem, Int.natCast_add, Int.natCast_one, norefs_bC, norefs_wA] <;> rfl), ⟨hnN, h2, g3⟩, by simp only; omega⟩
 rw [if_pos ⟨rfl, c3⟩] at f3
 refine EvC.cond_true (by simp only [go_sem, d1, c2, decide_eq_true (show ((s.wd n).length : Int) = r by omega)] <;> rfl) ?_
 refine EvC.skip ?_
 refine EvC.seq ?_
 refine EvC.block ?_
 obtain ⟨A, hA, hAl, hAi, hto⟩ := v.get (n := n) (i := i) (by omega) c1
 have hwE := f3
 generalize hx : eT t n i = x at hAi hto f3
 obtain ⟨e1, e2⟩ := x
 simp only at hto f3
 refine EvC.seq (EvC.rg (by simp only [go_sem, Mach.cells, hA, hAi, hnin, hiin, rowC, edgeC, List.length_map] <;> rfl) (by simp; try omega) ?_)
 refine EvC.seq ?_
 refine EvC.seq (EvC.rg (by simp only [go_sem] <;> rfl) (by simp) ?_)
 by_cases c4 : e1 = -1
 ·rw [if_pos c4] at f3
  refine EvC.cond_true (by simp only [go_sem, decide_eq_true c4] <;> rfl) ?_
  refine EvC.exit ?_
  refine EvC.rg (by simp only [go_sem] <;> rfl) (by exact inI64_of (by omega) (by omega)) ?_
  exact ⟨[(0, 0), (1, 1)], (i + 1, s), rfl, (by simp only [go_sem, Mach.cells, Int.natCast_add, Int.natCast_one, norefs_bC, norefs_wA] <;> rfl), ⟨by simp only; omega, h2, f3⟩, by simp only; omega⟩
 rw [if_neg c4] at f3
 refine EvC.cond_false (by simp only [go_sem, decide_eq_false c4] <;> rfl) ?_
 refine EvC.skip ?_
 obtain ⟨k, rfl⟩ : ∃ k : Nat, e1 = (k : Int) := ⟨e1.toNat, by omega⟩
 have hkN : k < N := by omega
 have hkin : (k : Int).toNat = k := Int.toNat_natCast k
 rw [hkin] at f3
 have hgk : (s.seen.map bC)[k]? = some (bC (s.has k)) := by rw [List.getElem?_map, h2.has_get hkN]; rfl
 have hgk2 : (s.out.map wA)[k]? = some (wA (s.wd k)) := by rw [List.getElem?_map, h2.wd_get hkN]; rfl
 refine EvC.seq ?_
 refine EvC.seq (EvC.rg (by simp only [go_sem, hgk, hls, hkin, bC] <;> rfl) (by simp; try omega) ?_)
 cases c5 : s.has k with
 | true =>
   rw [c5, if_pos rfl] at f3
   rw [f3] at g3
   simp only at g3
   rw [g3] at h3
   simp only at h3
   have hW0 := hW0 h3
   subst hW0
   refine EvC.cond_true (by simp only [go_sem, c5] <;> rfl) ?_
   refine EvC.seq (EvC.rg (by simp only [go_sem] <;> rfl) (by simp) ?_)
   refine EvC.ret ⟨.inl rfl, _, (by simp only [go_sem] <;> rfl), ?_, rfl⟩
   simp only [go_sem]
 | false =>
 rw [c5, if_neg (by simp)] at f3
 refine EvC.cond_false (by simp only [go_sem, c5] <;> rfl) ?_
 refine EvC.skip ?_
 refine EvC.seq (EvC.rg (by simp only [go_sem, hgk, hls, hkin, bC] <;> rfl) (by simp; try omega) ?_)
 have hput := h2.put (n := n) (i := i) hkN c5 (by omega)
 have hpm : (((s.put k n i).many : Nat) : Int) = (s.many : Int) + 1 := rfl
 have hset : ∀ x, ((s.out.map wA).set k x)[k]? = some x := fun x => by rw [List.getElem?_set, if_pos rfl, if_pos (by omega)]
 have hps : (s.seen.map bC).set k [.sc (.bool true)] = (s.put k n i).seen.map bC := by simp only [WS.put, List.map_set]; rfl
 have hpo : (s.out.map wA).set k [.sl false ((s.wd n ++ [i]).map natC) .unk] = (s.put k n i).out.map wA := by
  simp only [WS.put, List.map_set, wA, wCp]
  rw [if_neg (by simp)]
  have : (s.wd n ++ [i]).isEmpty = false := by simp
  rw [this]
 by_cases hx0 : s.wd n = []
 ·have hgo2 : (s.out.map wA)[n]? = some [.sl true [] .zer] := by rw [hgo, hx0]; rfl
  apply EvC.seq
  apply EvC.tr
  ·apply Tr.cons
   ·exact .op rfl (by simp only [go_sem] <;> rfl) (by simp only [go_sem] <;> rfl) rfl (by simp only [go_sem] <;> rfl)
   apply Tr.cons
   ·exact .op rfl (by simp only [go_sem] <;> rfl) (by simp only [go_sem] <;> rfl) rfl (by simp only [go_sem] <;> rfl)
   apply Tr.cons
   ·exact .op rfl (by simp only [go_sem] <;> rfl) (by simp only [go_sem] <;> rfl) rfl (by simp only [go_sem] <;> rfl)
   apply Tr.cons
   ·exact .op rfl (by simp only [go_sem] <;> rfl) (by simp only [go_sem] <;> rfl) rfl (by simp only [go_sem] <;> rfl)
   apply Tr.cons
   ·exact .op rfl (by simp only [go_sem] <;> rfl) (by simp only [go_sem] <;> rfl) rfl (by simp only [go_sem] <;> rfl)
   apply Tr.cons
   ·exact .op rfl (by simp only [go_sem] <;> rfl) (by simp only [go_sem, hnin, hgo2, hlo] <;> rfl) (by simp; try omega) (by simp only [go_sem] <;> rfl)
   apply Tr.cons
   ·exact .op rfl (by simp only [go_sem] <;> rfl) (by simp only [go_sem, hnin, hgo2, hlo] <;> rfl) (by simp; try omega) (by simp only [go_sem] <;> rfl)
   apply Tr.cons
   ·exact .appZ rfl rfl (by simp only [go_sem] <;> rfl) (by simp only [go_sem] <;> rfl) (by simp only [go_sem] <;> rfl) (by simp only [go_sem] <;> rfl) (by simp only [go_sem] <;> rfl) (by simp only [go_sem] <;> rfl) (by simp only [go_sem] <;> rfl)
   apply Tr.done
   ·simp only [go_sem, hkin, hgk2, hlo, wA] <;> rfl
   ·simp [room_eq]; exact hkN
  refine EvC.frz 51 (by simp only [go_sem] <;> rfl) ?_
  refine EvC.snapE 0 k (by simp only [go_sem, hset] <;> rfl) ?_
  have hr5 : room 1 8 = true := by simp [room_eq]
  rw [hx0, List.nil_append] at hpo
  have hpo2 : ((s.out.map wA).set k [.sl false [[.sc (.int .i64 i)]] .unk]) = (s.put k n i).out.map wA := hpo
  refine EvC.rg (by simp only [go_sem] <;> rfl) (by exact inI64_of (by omega) (by omega)) ?_
  refine EvC.rg (by simp only [go_sem] <;> rfl) (by exact inI64_of (by omega) (by omega)) ?_
  refine ⟨[(0, 0), (1, 1)], (i + 1, s.put k n i), rfl, ?_, ⟨by simp only; omega, hput, f3⟩, by simp only; omega⟩
  have hno := norefs_wA (s.put k n i).out
  have hnb := norefs_bC (s.put k n i).seen
  rw [← hpo2] at hno
  rw [← hps] at hnb
  simp only
  rw [← hpo2, ← hps]
  simp only [go_sem, Mach.cells, hpm, List.set_set, Int.natCast_add, Int.natCast_one, hno, hnb] <;> rfl
 have hx0l : (s.wd n).length ≠ 0 := fun h => hx0 (List.length_eq_zero_iff.1 h)
 have hx0e : (s.wd n).isEmpty = false := by cases hw : s.wd n with
  | nil => exact absurd hw hx0
  | cons _ _ => rfl
 have hgo2 : (s.out.map wA)[n]? = some [.sl false ((s.wd n).map natC) .unk] := by rw [hgo, wA, hx0e, wCp, if_neg hx0]
 obtain ⟨w, hw⟩ : ∃ w, w = s.wd n ++ [i] := ⟨_, rfl⟩
 have hsn : (s.wd n).map natC ++ [[.sc (.int .i64 i)]] = w.map natC := by rw [hw]; simp [natC]
 have hsl : (s.wd n).length + 1 = w.length := by rw [hw]; simp
 have hy : ∀ a ∈ s.wd n, (natC a).length = 1 := fun _ _ => rfl
 have hr3 : room (s.wd n).length 8 = true := by simp only [room_eq, decide_eq_true_eq]; omega
 have hr4 : room w.length 8 = true := by simp only [room_eq, decide_eq_true_eq]; omega
 refine EvC.seq (EvC.rg (by simp only [go_sem, hgo2, hgk2, hnin, hkin, hlo, hsn, hsl, wA, List.drop_succ_cons, List.drop_zero, List.length_map] <;> rfl) (by simp; exact ⟨⟨⟨hnN, hr3, hy⟩, hr4⟩, hkN⟩) ?_)
 refine EvC.frz 48 (by simp only [go_sem, List.length_map] <;> rfl) ?_
 refine EvC.snapE 0 k (by simp only [go_sem, hset, List.length_map] <;> rfl) ?_
 rw [← hw] at hpo
 refine EvC.rg (by simp only [go_sem] <;> rfl) (by exact inI64_of (by omega) (by omega)) ?_
 refine EvC.rg (by simp only [go_sem] <;> rfl) (by exact inI64_of (by omega) (by omega)) ?_
 refine ⟨[(0, 0), (1, 1)], (i + 1, s.put k n i), rfl, ?_, ⟨by simp only; omega, hput, f3⟩, by simp only; omega⟩
 have hno := norefs_wA (s.put k n i).out
 have hnb := norefs_bC (s.put k n i).seen
 rw [← hpo] at hno
 rw [← hps] at hnb
 simp only
 rw [← hpo, ← hps]
 simp only [go_sem, Mach.cells, hpm, List.set_set, Int.natCast_add, Int.natCast_one, hno, hnb] <;> rfl
end Go.Avl
namespace Go.Avl
open Go Go.Proofs.Try
set_option maxRecDepth 10000
set_option linter.unusedSimpArgs false
def wT (t : Mach) : Nat → Nat → List Nat
 | 0, _ => []
 | d + 1, n => if n = 0 then [] else wT t d (parT t n).1 ++ [(parT t n).2]
def wordN (t : Mach) (n : Nat) : List Nat := wT t n n
theorem wordN_zero (t : Mach) : wordN t 0 = [] := rfl
theorem wT_more {t : Mach} (v : TV t) (tp : TP t) : ∀ (n d d' : Nat), n < t.rows.length → n ≤ d → n ≤ d' → wT t d n = wT t d' n := by
 intro n
 induction n using Nat.strongRecOn with
 | _ n ih =>
   intro d d' hn h1 h2
   by_cases h0 : n = 0
   ·subst h0
    cases d <;> cases d' <;> rfl
   ·have hp := parT_lt v tp (by omega) hn
    obtain ⟨d, rfl⟩ : ∃ k, d = k + 1 := ⟨d - 1, by omega⟩
    obtain ⟨d', rfl⟩ : ∃ k, d' = k + 1 := ⟨d' - 1, by omega⟩
    rw [wT, wT, if_neg h0, if_neg h0, ih _ hp.1 d d' (by omega) (by omega) (by omega)]
theorem wordN_eq {t : Mach} (v : TV t) (tp : TP t) {n : Nat} (h0 : 1 ≤ n) (hn : n < t.rows.length) : wordN t n = wordN t (parT t n).1 ++ [(parT t n).2] := by
 have hp := parT_lt v tp h0 hn
 unfold wordN
 obtain ⟨d, rfl⟩ : ∃ k, n = k + 1 := ⟨n - 1, by omega⟩
 rw [wT, if_neg (by omega), wT_more v tp _ d _ (by omega) (by omega) (Nat.le_refl _)]
theorem wordN_edge {t : Mach} (v : TV t) (tp : TP t) {p i n : Nat} (h1 : p < t.rows.length) (h2 : (i : Int) < t.ins) (h3 : (eT t p i).1 = (n : Int)) : p < n ∧ n < t.rows.length ∧ parT t n = (p, i) ∧ wordN t n = wordN t p ++ [i] := by
 have he := v.edge h1 h2
 have hpn : p < n := by omega
 have hpar := parT_eq tp hpn h2 h3
 have hw := wordN_eq v tp (n := n) (by omega) (by omega)
 rw [hpar] at hw
 exact ⟨hpn, by omega, hpar, hw⟩
theorem parT_to {t : Mach} (v : TV t) (tp : TP t) {n : Nat} (h0 : 1 ≤ n) (hn : n < t.rows.length) : (eT t (parT t n).1 (parT t n).2).1 = (n : Int) := by
 obtain ⟨p, i, k1, k2, k3⟩ := tp.has n h0 hn
 rw [parT_eq tp k1 k2 k3]; exact k3
theorem wordN_le {t : Mach} (v : TV t) (tp : TP t) : ∀ n, n < t.rows.length → (wordN t n).length ≤ n := by
 intro n
 induction n using Nat.strongRecOn with
 | _ n ih =>
   intro hn
   by_cases h0 : n = 0
   ·subst h0; simp [wordN_zero]
   ·have hp := parT_lt v tp (by omega) hn
    have := ih _ hp.1 (by omega)
    rw [wordN_eq v tp (by omega) hn]
    simp; omega
structure WI (t : Mach) (m0 r n i : Nat) (s : WS) : Prop where
 ok : s.Ok t.rows.length
 has : ∀ m, m < t.rows.length → (s.has m = true ↔ (wordN t m).length ≤ r ∨ (wordN t m).length = r + 1 ∧ ((parT t m).1 < n ∨ (parT t m).1 = n ∧ (parT t m).2 < i))
 wd : ∀ m, m < t.rows.length → s.has m = true → s.wd m = wordN t m
 ge : m0 ≤ s.many
 new : s.many = m0 → ∀ m, m < t.rows.length → (wordN t m).length = r + 1 → ¬ ((parT t m).1 < n ∨ (parT t m).1 = n ∧ (parT t m).2 < i)
theorem WS.has_put {s : WS} {N to n i : Nat} (h : s.Ok N) (ht : to < N) (m : Nat) : (s.put to n i).has m = if m = to then true else s.has m := by
 unfold WS.has WS.put
 simp only [List.getElem?_set]
 by_cases e : to = m
 ·subst e; rw [if_pos rfl, if_pos (by rw [h.seen]; exact ht), if_pos rfl]; rfl
 ·rw [if_neg e, if_neg (fun h => e h.symm)]
theorem WS.wd_put {s : WS} {N to n i : Nat} (h : s.Ok N) (ht : to < N) (m : Nat) : (s.put to n i).wd m = if m = to then s.wd n ++ [i] else s.wd m := by
 unfold WS.wd WS.put
 simp only [List.getElem?_set]
 by_cases e : to = m
 ·subst e; rw [if_pos rfl, if_pos (by rw [h.out]; exact ht), if_pos rfl]; rfl
 ·rw [if_neg e, if_neg (fun h => e h.symm)]
theorem WI.wE {t : Mach} (v : TV t) (tp : TP t) {m0 r n : Nat} (hr : r < t.rows.length) (hn : n < t.rows.length) : ∀ (d i : Nat) (s : WS), d + i = t.ins.toNat → WI t m0 r n i s → ∃ s', wE t r n d i s = some s' ∧ WI t m0 r (n + 1) 0 s'
 | 0, i, s, hd, h => by
   have e : ∀ m, m < t.rows.length → (wordN t m).length = r + 1 → (((parT t m).1 < n ∨ (parT t m).1 = n ∧ (parT t m).2 < i) ↔ ((parT t m).1 < n + 1 ∨ (parT t m).1 = n + 1 ∧ (parT t m).2 < 0)) := fun m hm hl => by
    have := parT_in v tp hm
    omega
   exact ⟨s, rfl, ⟨h.ok, fun m hm => by
    rw [h.has m hm]
    constructor
    ·rintro (h1 | ⟨h1, h2⟩)
     ·exact .inl h1
     ·exact .inr ⟨h1, (e m hm h1).1 h2⟩
    ·rintro (h1 | ⟨h1, h2⟩)
     ·exact .inl h1
     ·exact .inr ⟨h1, (e m hm h1).2 h2⟩, h.wd, h.ge, fun hm0 m hm hl hq => h.new hm0 m hm hl ((e m hm hl).2 hq)⟩⟩
 | d + 1, i, s, hd, h => by
   rw [Go.Avl.wE]
   have hii : (i : Int) < t.ins := by have := v.ins; omega
   by_cases hc : s.has n = true ∧ (s.wd n).length = r
   rotate_left
   ·rw [if_neg hc]
    have hdn : (wordN t n).length ≠ r := fun e => by
     have h1 : s.has n = true := (h.has n hn).2 (.inl (by omega))
     exact hc ⟨h1, by rw [h.wd n hn h1]; exact e⟩
    have e : ∀ m, m < t.rows.length → (wordN t m).length = r + 1 → (parT t m).1 ≠ n := fun m hm hl hq => by
     have h0 : 1 ≤ m := by
      by_cases h0 : m = 0
      ·subst h0; rw [wordN_zero] at hl; simp at hl
      ·omega
     have := wordN_eq v tp h0 hm
     rw [hq] at this
     rw [this] at hl
     simp at hl
     exact hdn hl
    have e2 : ∀ m, m < t.rows.length → (wordN t m).length = r + 1 → (((parT t m).1 < n ∨ (parT t m).1 = n ∧ (parT t m).2 < i) ↔ ((parT t m).1 < n + 1 ∨ (parT t m).1 = n + 1 ∧ (parT t m).2 < 0)) := fun m hm hl => by
     have := e m hm hl
     omega
    exact ⟨s, rfl, ⟨h.ok, fun m hm => by
     rw [h.has m hm]
     constructor
     ·rintro (h1 | ⟨h1, h2⟩)
      ·exact .inl h1
      ·exact .inr ⟨h1, (e2 m hm h1).1 h2⟩
     ·rintro (h1 | ⟨h1, h2⟩)
      ·exact .inl h1
      ·exact .inr ⟨h1, (e2 m hm h1).2 h2⟩, h.wd, h.ge, fun hm0 m hm hl hq => h.new hm0 m hm hl ((e2 m hm hl).2 hq)⟩⟩
   rw [if_pos hc]
   obtain ⟨hc1, hc2⟩ := hc
   have hwn := h.wd n hn hc1
   rw [hwn] at hc2
   have eP := v.edge hn hii
   by_cases h1 : (eT t n i).1 = -1
   ·rw [if_pos h1]
    have e : ∀ m, m < t.rows.length → (wordN t m).length = r + 1 → ¬ ((parT t m).1 = n ∧ (parT t m).2 = i) := fun m hm hl hq => by
     have h0 : 1 ≤ m := by
      by_cases h0 : m = 0
      ·subst h0; rw [wordN_zero] at hl; simp at hl
      ·omega
     have := parT_to v tp h0 hm
     rw [hq.1, hq.2, h1] at this
     omega
    have e2 : ∀ m, m < t.rows.length → (wordN t m).length = r + 1 → (((parT t m).1 < n ∨ (parT t m).1 = n ∧ (parT t m).2 < i) ↔ ((parT t m).1 < n ∨ (parT t m).1 = n ∧ (parT t m).2 < i + 1)) := fun m hm hl => by
     have := e m hm hl
     omega
    exact WI.wE v tp hr hn d (i + 1) s (by omega) ⟨h.ok, fun m hm => by
     rw [h.has m hm]
     constructor
     ·rintro (h1 | ⟨h1, h2⟩)
      ·exact .inl h1
      ·exact .inr ⟨h1, (e2 m hm h1).1 h2⟩
     ·rintro (h1 | ⟨h1, h2⟩)
      ·exact .inl h1
      ·exact .inr ⟨h1, (e2 m hm h1).2 h2⟩, h.wd, h.ge, fun hm0 m hm hl hq => h.new hm0 m hm hl ((e2 m hm hl).2 hq)⟩
   ·rw [if_neg h1]
    obtain ⟨k, hk⟩ : ∃ k : Nat, (eT t n i).1 = (k : Int) := ⟨(eT t n i).1.toNat, by omega⟩
    rw [hk, Int.toNat_natCast]
    obtain ⟨k1, k2, k3, k4⟩ := wordN_edge v tp hn hii hk
    have hkl : (wordN t k).length = r + 1 := by rw [k4]; simp; omega
    have hkh : s.has k = false := by
     cases hb : s.has k with
     | false => rfl
     | true =>
       have := (h.has k k2).1 hb
       rw [k3] at this
       simp only at this
       omega
    rw [hkh, if_neg (by simp)]
    refine WI.wE v tp hr hn d (i + 1) _ (by omega) ⟨h.ok.put k2 hkh (by rw [hwn]; omega), fun m hm => ?_, fun m hm hb => ?_, by have := h.ge; simp only [WS.put]; omega, fun hm0 => by have := h.ge; simp only [WS.put] at hm0; omega⟩
    ·rw [WS.has_put h.ok k2]
     by_cases e : m = k
     ·subst e
      rw [if_pos rfl]
      refine ⟨fun _ => .inr ⟨hkl, .inr ?_⟩, fun _ => rfl⟩
      rw [k3]; exact ⟨rfl, Nat.lt_succ_self _⟩
     ·rw [if_neg e, h.has m hm]
      have e3 : (wordN t m).length = r + 1 → ¬ ((parT t m).1 = n ∧ (parT t m).2 = i) := fun hl hq => by
       have h0 : 1 ≤ m := by
        by_cases h0 : m = 0
        ·subst h0; rw [wordN_zero] at hl; simp at hl
        ·omega
       have := parT_to v tp h0 hm
       rw [hq.1, hq.2, hk] at this
       omega
      constructor
      ·rintro (h1 | ⟨h1, h2⟩)
       ·exact .inl h1
       ·exact .inr ⟨h1, by omega⟩
      ·rintro (h1 | ⟨h1, h2⟩)
       ·exact .inl h1
       ·have := e3 h1
        exact .inr ⟨h1, by omega⟩
    ·rw [WS.has_put h.ok k2] at hb
     rw [WS.wd_put h.ok k2]
     by_cases e : m = k
     ·subst e
      rw [if_pos rfl, hwn, k4]
     ·rw [if_neg e] at hb ⊢
      exact h.wd m hm hb
theorem WI.wN {t : Mach} (v : TV t) (tp : TP t) {m0 r : Nat} (hr : r < t.rows.length) : ∀ (d n : Nat) (s : WS), d + n = t.rows.length → WI t m0 r n 0 s → ∃ s', wN t r d n s = some s' ∧ WI t m0 r t.rows.length 0 s'
 | 0, n, s, hd, h => ⟨s, rfl, by rw [← hd, Nat.zero_add]; exact h⟩
 | d + 1, n, s, hd, h => by
   obtain ⟨s1, h1, h2⟩ := WI.wE v tp hr (by omega) t.ins.toNat 0 s (by omega) h
   rw [Go.Avl.wN, h1]
   exact WI.wN v tp hr d (n + 1) s1 (by omega) h2
theorem wordN_deep {t : Mach} (v : TV t) (tp : TP t) {r : Nat} (h : ∀ m, m < t.rows.length → (wordN t m).length ≠ r + 1) : ∀ m, m < t.rows.length → (wordN t m).length ≤ r := by
 intro m
 induction m using Nat.strongRecOn with
 | _ m ih =>
   intro hm
   by_cases h0 : m = 0
   ·subst h0; simp [wordN_zero]
   ·have hp := parT_lt v tp (by omega) hm
    have := ih _ hp.1 (by omega)
    have e := wordN_eq v tp (by omega) hm
    have := h m hm
    rw [e] at this ⊢
    simp at this ⊢
    omega
theorem WI.wR {t : Mach} (v : TV t) (tp : TP t) : ∀ (d r : Nat) (s : WS), d + r = t.rows.length → WI t s.many r 0 0 s → ∃ s', wR t d r s = some s' ∧ s'.Ok t.rows.length ∧ ∀ m, m < t.rows.length → s'.has m = true ∧ s'.wd m = wordN t m
 | 0, r, s, hd, h => ⟨s, rfl, h.ok, fun m hm => by
   have hl := wordN_le v tp m hm
   have hh := (h.has m hm).2 (.inl (by omega))
   exact ⟨hh, h.wd m hm hh⟩⟩
 | d + 1, r, s, hd, h => by
   obtain ⟨s1, h1, h2⟩ := WI.wN v tp (by omega) t.rows.length 0 s (by omega) h
   rw [Go.Avl.wR, h1]
   simp only
   have hend : ∀ m, m < t.rows.length → ((parT t m).1 < t.rows.length ∨ (parT t m).1 = t.rows.length ∧ (parT t m).2 < 0) := fun m hm => by
    have := parT_in v tp hm
    omega
   by_cases hm : s1.many = s.many
   ·rw [if_pos hm]
    refine ⟨s1, rfl, h2.ok, fun m hk => ?_⟩
    have hl := wordN_deep v tp (r := r) (fun m hk hl => h2.new hm m hk hl (hend m hk)) m hk
    have hh := (h2.has m hk).2 (.inl hl)
    exact ⟨hh, h2.wd m hk hh⟩
   ·rw [if_neg hm]
    refine WI.wR v tp d (r + 1) s1 (by omega) ⟨h2.ok, fun m hk => ?_, h2.wd, Nat.le_refl _, fun _ m hk hl => by omega⟩
    rw [h2.has m hk]
    have := hend m hk
    constructor
    ·rintro (h1 | ⟨h1, _⟩)
     ·exact .inl (by omega)
     ·exact .inl (by omega)
    ·rintro (h1 | ⟨h1, h3⟩)
     ·by_cases e : (wordN t m).length ≤ r
      ·exact .inl e
      ·exact .inr ⟨by omega, this⟩
     ·omega
theorem wordsR_valid {t : Mach} (v : TV t) (tp : TP t) : wordsR t = some ((List.range t.rows.length).map (wordN t)) := by
 have hrw := v.rows
 have hok := ws0_ok hrw.1
 have hhas : ∀ m, m < t.rows.length → (ws0 t.rows.length).has m = decide (m = 0) := fun m hm => by
  unfold WS.has ws0
  simp only [List.getElem?_set, List.length_replicate]
  by_cases e : m = 0
  ·subst e; rw [if_pos rfl, if_pos hm]; rfl
  ·rw [if_neg (fun h => e h.symm), List.getElem?_replicate, if_pos hm, decide_eq_false e]; rfl
 obtain ⟨s, h1, h2, h3⟩ := WI.wR v tp t.rows.length 0 (ws0 t.rows.length) (by omega) ⟨hok, fun m hm => by
  rw [hhas m hm, decide_eq_true_eq]
  constructor
  ·intro h; subst h; exact .inl (by simp [wordN_zero])
  ·rintro (h | ⟨_, h⟩)
   ·by_cases h0 : m = 0
    ·exact h0
    ·have := wordN_eq v tp (by omega) hm
     rw [this] at h
     simp at h
   ·omega, fun m hm hb => by
  rw [hhas m hm, decide_eq_true_eq] at hb
  subst hb
  rw [wordN_zero]
  unfold WS.wd ws0
  simp only [List.getElem?_replicate]
  split <;> rfl, Nat.le_refl _, fun _ m hm hl => by omega⟩
 unfold wordsR
 rw [h1]
 have hall : s.seen = List.replicate t.rows.length true := by
  apply List.ext_getElem?
  intro m
  by_cases hm : m < t.rows.length
  ·rw [h2.has_get hm, (h3 m hm).1, List.getElem?_replicate, if_pos hm]
  ·rw [List.getElem?_eq_none (by rw [h2.seen]; omega), List.getElem?_replicate, if_neg hm]
 have hmany : s.many = t.rows.length := by
  rw [h2.many, hall, List.countP_replicate]; simp
 simp only
 rw [if_neg (by omega)]
 congr 1
 apply List.ext_getElem?
 intro m
 by_cases hm : m < t.rows.length
 ·rw [h2.wd_get hm, (h3 m hm).2, List.getElem?_map, List.getElem?_range hm]; rfl
 ·rw [List.getElem?_eq_none (by rw [h2.out]; omega), List.getElem?_eq_none (by simp; omega)]
end Go.Avl
namespace Go.Avl
open Go Go.Proofs.Try
set_option maxRecDepth 10000
set_option linter.unusedSimpArgs false
end Go.Avl
namespace Go.Avl
open Go Go.Proofs.Try
set_option maxRecDepth 10000
set_option linter.unusedSimpArgs false
def aftI (m : Mach) : Int → List Nat → Int
 | s, [] => s
 | s, a :: w => aftI m (stepR m s (a : Int)).1 w
def castW (w : List Nat) : List Int := w.map fun (x : Nat) => (x : Int)
theorem aftI_snoc (m : Mach) (i : Nat) : ∀ (s : Int) (w : List Nat), aftI m s (w ++ [i]) = (stepR m (aftI m s w) (i : Int)).1
 | _, [] => rfl
 | _, _ :: w => aftI_snoc m i _ w
theorem runR_snoc (m : Mach) (i : Nat) : ∀ (s : Int) (w : List Nat), runR m s (castW (w ++ [i])) = runR m s (castW w) ++ [(stepR m (aftI m s w) (i : Int)).2]
 | _, [] => by simp only [castW, List.nil_append, List.map_cons, List.map_nil, runR, aftI]
 | s, a :: w => by
   have := runR_snoc m i (stepR m s (a : Int)).1 w
   simp only [castW, List.cons_append, List.map_cons, runR] at this ⊢
   rw [this]; rfl
theorem stepR_eT (m : Mach) (s i : Nat) : stepR m (s : Int) (i : Int) = eT m s i := by
 unfold stepR
 rw [if_neg (by omega)]; rfl
def outT (x : Int × Int) : Int := if x.1 = -1 then -1 else x.2
def okW (t m : Mach) (n i : Nat) : Bool := !knownE (eT t n i) || decide ((stepR m (aftI m 0 (wordN t n)) (i : Int)).2 = outT (eT t n i))
theorem FitH.aft {t m : Mach} (v : TV t) (tp : TP t) {h : Nat → Nat} (hf : FitH t m h) : ∀ n, n < t.rows.length → aftI m 0 (wordN t n) = (h n : Int) := by
 intro n
 induction n using Nat.strongRecOn with
 | _ n ih =>
   intro hn
   by_cases h0 : n = 0
   ·subst h0; rw [wordN_zero, aftI, hf.root]; rfl
   ·have hp := parT_lt v tp (by omega) hn
    have he := parT_to v tp (n := n) (by omega) hn
    rw [wordN_eq v tp (by omega) hn, aftI_snoc, ih _ hp.1 (by omega), stepR_eT]
    have := (hf.ok _ _ (show (parT t n).1 < t.rows.length by omega) hp.2).2 (by omega)
    rw [this, he, Int.toNat_natCast]
theorem FitH.okW {t m : Mach} (v : TV t) (tp : TP t) (vm : Valid m) (hins : m.ins = t.ins) {h : Nat → Nat} (hf : FitH t m h) {n i : Nat} (hn : n < t.rows.length) (hi : (i : Int) < t.ins) : okW t m n i = true := by
 have h1 := (hf.ok n i hn hi).1
 unfold Go.Avl.okW
 rw [hf.aft v tp n hn, stepR_eT]
 unfold okB at h1
 cases hk : knownE (eT t n i) with
 | false => rfl
 | true =>
   rw [hk] at h1
   simp only [Bool.not_true, Bool.false_or, Bool.and_eq_true, Bool.or_eq_true, beq_iff_eq, decide_eq_true_eq, decide_eq_decide] at h1 ⊢
   unfold outT
   by_cases hx : (eT t n i).1 = -1
   ·rw [if_pos hx]
    have hy := h1.1.1 hx
    by_cases hs : h n < m.rows.length
    ·obtain ⟨_, _, _, _, he⟩ := vm.edge hs (i := i) (by omega)
     rcases he with he | he
     ·rw [he]
     ·omega
    ·have : m.rows[h n]? = none := List.getElem?_eq_none (by omega)
     simp [eT, this]
   ·rw [if_neg hx]
    exact h1.2.resolve_left hx
theorem okW_fit {t m : Mach} (v : TV t) (tp : TP t) (vm : Valid m) (hins : m.ins = t.ins) (h : ∀ n i : Nat, n < t.rows.length → (i : Int) < t.ins → okW t m n i = true) : FitH t m fun n => (aftI m 0 (wordN t n)).toNat := by
 have hpos : ∀ n, n < t.rows.length → 0 ≤ aftI m 0 (wordN t n) ∧ aftI m 0 (wordN t n) < m.rows.length := by
  intro n
  induction n using Nat.strongRecOn with
  | _ n ih =>
    intro hn
    by_cases h0 : n = 0
    ·subst h0; rw [wordN_zero, aftI]; have := vm.rows; omega
    ·have hp := parT_lt v tp (by omega) hn
     have he := parT_to v tp (n := n) (by omega) hn
     have hk := h _ _ (show (parT t n).1 < t.rows.length by omega) hp.2
     have hv := v.edge (show (parT t n).1 < t.rows.length by omega) hp.2
     have ih := ih _ hp.1 (by omega)
     rw [wordN_eq v tp (by omega) hn, aftI_snoc]
     obtain ⟨s, hs⟩ : ∃ s : Nat, aftI m 0 (wordN t (parT t n).1) = (s : Int) := ⟨_, (Int.toNat_of_nonneg ih.1).symm⟩
     unfold okW at hk
     rw [knownE_to (show (eT t (parT t n).1 (parT t n).2).1 ≠ -1 by omega), hs, stepR_eT, outT, if_neg (by omega)] at hk
     rw [hs, stepR_eT]
     simp only [Bool.not_true, Bool.false_or, decide_eq_true_eq] at hk
     obtain ⟨_, _, _, _, hx⟩ := vm.edge (show s < m.rows.length by omega) (i := (parT t n).2) (by omega)
     rcases hx with hx | hx
     ·rw [hx] at hk; simp only at hk; omega
     ·omega
 refine ⟨by rw [wordN_zero]; rfl, fun n i hn hi => ?_⟩
 have hp := hpos n hn
 obtain ⟨s, hs⟩ : ∃ s : Nat, aftI m 0 (wordN t n) = (s : Int) := ⟨_, (Int.toNat_of_nonneg hp.1).symm⟩
 have hk := h n i hn hi
 unfold okW at hk
 rw [hs, stepR_eT] at hk
 rw [hs, Int.toNat_natCast]
 obtain ⟨_, _, _, _, hx⟩ := vm.edge (show s < m.rows.length by omega) (i := i) (by omega)
 have hv := v.edge hn hi
 refine ⟨?_, fun hne => ?_⟩
 ·unfold okB
  cases hkn : knownE (eT t n i) with
  | false => rfl
  | true =>
    rw [hkn] at hk
    unfold outT at hk
    simp only [Bool.not_true, Bool.false_or, decide_eq_true_eq] at hk
    by_cases h1 : (eT t n i).1 = -1
    ·rw [if_pos h1] at hk
     have : (eT m s i).1 = -1 := by
      rcases hx with hx | hx
      ·rw [hx]
      ·omega
     rw [h1, this]; rfl
    ·rw [if_neg h1] at hk
     have : (eT m s i).1 ≠ -1 := by
      rcases hx with hx | hx
      ·rw [hx] at hk; simp only at hk; omega
      ·omega
     rw [decide_eq_false h1, decide_eq_false this, hk]; simp
 ·obtain ⟨k, hk⟩ : ∃ k : Nat, (eT t n i).1 = (k : Int) := ⟨(eT t n i).1.toNat, by omega⟩
  obtain ⟨q1, q2, q3, q4⟩ := wordN_edge v tp hn hi hk
  rw [hk, Int.toNat_natCast]
  have := hpos k q2
  rw [q4, aftI_snoc, hs, stepR_eT] at this ⊢
  omega
theorem fitB_iff {t m : Mach} (v : TV t) (tp : TP t) (vm : Valid m) (hins : m.ins = t.ins) : fitB t m = true ↔ ∀ n i : Nat, n < t.rows.length → (i : Int) < t.ins → okW t m n i = true := by
 classical
 unfold fitB
 rw [decide_eq_true_eq]
 exact ⟨fun ⟨h, hf⟩ n i hn hi => hf.okW v tp vm hins hn hi, fun h => ⟨_, okW_fit v tp vm hins h⟩⟩
end Go.Avl
namespace Go.Avl
open Go Go.Proofs.Try
set_option maxRecDepth 10000
set_option linter.unusedSimpArgs false
theorem castW_mem {t : Mach} (v : TV t) (tp : TP t) : ∀ n, n < t.rows.length → ∀ a ∈ castW (wordN t n), 0 ≤ a ∧ a < t.ins := by
 intro n
 induction n using Nat.strongRecOn with
 | _ n ih =>
   intro hn a ha
   by_cases h0 : n = 0
   ·subst h0; rw [wordN_zero] at ha; cases ha
   ·have hp := parT_lt v tp (by omega) hn
    rw [wordN_eq v tp (by omega) hn, castW, List.map_append] at ha
    rcases List.mem_append.1 ha with ha | ha
    ·exact ih _ hp.1 (by omega) a ha
    ·simp at ha; omega
theorem castW_natC (w : List Nat) : (castW w).map intC = w.map natC := by unfold castW; rw [List.map_map]; rfl
set_option maxHeartbeats 8000000 in
theorem fits24_is {t m : Mach} (v : TV t) (tp : TP t) (vm : Valid m) (hins : m.ins = t.ins) : PureIs prog 24 [.ag m.cells, .ag t.cells] (.sc (.bool (fitB t m))) := by
 have hrw := v.rows
 have hin := v.ins
 have hWd := words56_is v.tg
 rw [wordsR_valid v tp] at hWd
 have hiff := fitB_iff v tp vm hins
 obtain ⟨N, hN⟩ : ∃ N, N = t.rows.length := ⟨_, rfl⟩
 rw [← hN] at hWd hrw
 generalize fitB t m = B at hiff
 obtain ⟨L, hL⟩ : ∃ L, L = (List.range N).map (wordN t) := ⟨_, rfl⟩
 rw [← hL] at hWd
 have hLl : (L.map wA).length = N := by rw [hL]; simp
 rw [wordsA] at hWd
 refine PureIs.of (nv := 11) (hid := [8, 16, 22, 35, 51, 59]) func24 rfl (by kernel_rfl) (by simp [ntmps24]) fun _ => ?_
 rw [ntmps24, results24]
 refine EvC.seq (EvC.rg (by simp only [go_sem, Mach.cells] <;> rfl) (by simp) ?_)
 refine EvC.frzB 0 (by simp only [go_sem] <;> rfl) ?_
 refine EvC.frzB 1 (by simp only [go_sem] <;> rfl) ?_
 rw [Mach.cells] at hWd
 apply EvC.seq
 apply EvC.tr
 ·apply Tr.run
  ·simp only [go_sem] <;> rfl
  ·simp
  apply Tr.cons
  ·exact .call rfl rfl (by simp only [go_sem] <;> rfl) (by simp only [go_sem] <;> rfl) (by simp only [go_sem] <;> rfl) (by simp only [go_sem] <;> rfl) (by simp only [go_sem] <;> rfl) (hWd)
  apply Tr.done
  ·simp only [go_sem] <;> rfl
  ·simp
 refine EvC.seq ?_
 refine EvC.seq (EvC.rg (by simp only [go_sem] <;> rfl) (by simp) ?_)
 refine EvC.block ?_
 refine EvC.loopS (σ := Nat) (fun n => ⟨[(2, .ia m.cells), (3, .ia t.cells), (5, .sl false (L.map wA) .full), (6, .sc (.int .i64 n))], [], [], 0⟩) (fun n => N - n)
  (fun n => n ≤ N ∧ ∀ q i : Nat, q < n → (i : Int) < t.ins → okW t m q i = true) [2, 3, 5, 6] 0 ?_ ?_
 ·exact ⟨[], 0, rfl, (by simp only [go_sem, Mach.cells, Int.natCast_zero] <;> rfl), Nat.zero_le _, fun q i h => by omega⟩
 rintro n ⟨h1, h2⟩
 simp only at h1 h2 ⊢
 refine EvC.seq ?_
 refine EvC.seq (EvC.rg (by simp only [go_sem, hLl] <;> rfl) (by simp) ?_)
 refine EvC.cond (by simp only [go_sem] <;> rfl) (fun hc => ?_) (fun hc => ?_)
 rotate_left
 ·
  have hc : ¬ n < N := by simpa using hc
  have hB : B = true := hiff.2 fun q i hq hi => h2 q i (by omega) hi
  subst hB
  refine EvC.exit ?_
  refine EvC.seq (EvC.rg (by simp only [go_sem] <;> rfl) (by simp) ?_)
  refine EvC.ret ⟨.inl rfl, _, (by simp only [go_sem] <;> rfl), ?_, rfl⟩
  simp only [go_sem]
 have hnN : n < N := by simpa using hc
 clear hc
 refine EvC.skip ?_
 refine EvC.seq ?_
 refine EvC.block ?_
 refine EvC.seq (EvC.rg (by simp only [go_sem] <;> rfl) (by simp) ?_)
 refine EvC.block ?_
 refine EvC.loopS (σ := Nat) (fun i => ⟨[(2, .ia m.cells), (3, .ia t.cells), (5, .sl false (L.map wA) .full), (6, .sc (.int .i64 n)), (7, .sc (.int .i64 i))], [], [], 0⟩) (fun i => t.ins.toNat - i)
  (fun i => (i : Int) ≤ t.ins ∧ ∀ j : Nat, j < i → okW t m n j = true) [2, 3, 5, 6, 7] 0 ?_ ?_
 ·exact ⟨[], 0, rfl, (by simp only [go_sem, Mach.cells, Int.natCast_zero] <;> rfl), by omega, fun j h => by omega⟩
 rintro i ⟨g1, g2⟩
 simp only at g1 g2 ⊢
 have hnin : (n : Int).toNat = n := Int.toNat_natCast n
 have hiin : (i : Int).toNat = i := Int.toNat_natCast i
 refine EvC.seq ?_
 refine EvC.seq (EvC.rg (by simp only [go_sem, Mach.cells] <;> rfl) (by simp) ?_)
 refine EvC.cond (by simp only [go_sem] <;> rfl) (fun hc => ?_) (fun hc => ?_)
 rotate_left
 ·
  have hc : ¬ (i : Int) < t.ins := by simpa using hc
  refine EvC.exit ?_
  refine EvC.rg (by simp only [go_sem] <;> rfl) (by exact inI64_of (by omega) (by omega)) ?_
  refine ⟨[], n + 1, rfl, (by simp only [go_sem, Mach.cells, Int.natCast_add, Int.natCast_one] <;> rfl), ⟨hnN, fun q j hq hj => ?_⟩, by omega⟩
  by_cases e : q = n
  ·subst e; exact g2 j (by omega)
  ·exact h2 q j (by omega) hj
 have hi : (i : Int) < t.ins := by simpa using hc
 clear hc
 refine EvC.skip ?_
 refine EvC.seq ?_
 refine EvC.block ?_
 obtain ⟨A, hA, hAl, hAi⟩ := row_get v (n := n) (i := i) (by omega) hi
 have hok : okW t m n i = (!knownE (eT t n i) || decide ((stepR m (aftI m 0 (wordN t n)) (i : Int)).2 = outT (eT t n i))) := rfl
 generalize hx : eT t n i = x at hAi hok
 obtain ⟨e1, e2⟩ := x
 refine EvC.seq (EvC.rg (by simp only [go_sem, Mach.cells, hA, hAi, hnin, hiin, rowC, edgeC, List.length_map] <;> rfl) (by simp; try omega) ?_)
 refine EvC.frzB 12 (by simp only [go_sem] <;> rfl) ?_
 refine EvC.seq ?_
 have hK := known57_is e1 e2
 cases hk : knownE (e1, e2) with
 | false =>
   rw [hk] at hK hok
   apply EvC.seq
   apply EvC.tr
   ·apply Tr.run
    ·simp only [go_sem] <;> rfl
    ·simp
    apply Tr.cons
    ·exact .call rfl rfl (by simp only [go_sem] <;> rfl) (by simp only [go_sem] <;> rfl) (by simp only [go_sem] <;> rfl) (by simp only [go_sem] <;> rfl) (by simp only [go_sem] <;> rfl) (hK)
    apply Tr.done
    ·simp only [go_sem] <;> rfl
    ·simp
   refine EvC.cond_true (by simp only [go_sem] <;> rfl) ?_
   refine EvC.exit ?_
   refine EvC.rg (by simp only [go_sem] <;> rfl) (by exact inI64_of (by omega) (by omega)) ?_
   refine ⟨[], i + 1, rfl, (by simp only [go_sem, Mach.cells, Int.natCast_add, Int.natCast_one] <;> rfl), ⟨by omega, fun j hj => ?_⟩, by omega⟩
   by_cases e : j = i
   ·subst e; rw [hok]; rfl
   ·exact g2 j (by omega)
 | true =>
 rw [hk] at hK hok
 apply EvC.seq
 apply EvC.tr
 ·apply Tr.run
  ·simp only [go_sem] <;> rfl
  ·simp
  apply Tr.cons
  ·exact .call rfl rfl (by simp only [go_sem] <;> rfl) (by simp only [go_sem] <;> rfl) (by simp only [go_sem] <;> rfl) (by simp only [go_sem] <;> rfl) (by simp only [go_sem] <;> rfl) (hK)
  apply Tr.done
  ·simp only [go_sem] <;> rfl
  ·simp
 refine EvC.cond_false (by simp only [go_sem] <;> rfl) ?_
 refine EvC.skip ?_
 refine EvC.gcE [2, 3, 5, 6, 7, 8] [] 0 rfl (by simp only [go_sem] <;> rfl) ?_
 obtain ⟨w, hw⟩ : ∃ w, w = wordN t n ++ [i] := ⟨_, rfl⟩
 have hwl := wordN_le v tp n (by omega)
 have hRun := run04_is vm 0 (by have := vm.rows; omega) false (castW w) .unk (fun a ha => by
  rw [hw, castW, List.map_append] at ha
  rcases List.mem_append.1 ha with ha | ha
  ·have := castW_mem v tp n (by omega) a ha; omega
  ·simp at ha; omega) (by rw [hw, castW]; simp; omega)
 have hrs := runR_snoc m i 0 (wordN t n)
 rw [← hw] at hrs
 rw [castW_natC] at hRun
 have hrl : (runR m 0 (castW w)).length = w.length := by rw [runR_len, castW]; simp
 have hw0 : w.length = (wordN t n).length + 1 := by rw [hw]; simp
 have hre : (runR m 0 (castW w)).isEmpty = false := by cases hq : runR m 0 (castW w) with
  | nil => rw [hq] at hrl; simp at hrl; omega
  | cons _ _ => rfl
 have hlast : (runR m 0 (castW w))[w.length - 1]? = some (stepR m (aftI m 0 (wordN t n)) (i : Int)).2 := by
  rw [hrs, List.getElem?_append_right (by rw [runR_len, castW, List.length_map]; omega), runR_len, castW, List.length_map, hw0]; simp
 rw [hre] at hRun
 generalize runR m 0 (castW w) = R at hRun hrs hrl hlast
 generalize (stepR m (aftI m 0 (wordN t n)) (i : Int)).2 = y at hok hlast hrs
 refine EvC.mergeC (α := Unit) (fun _ => ⟨[(2, .ia m.cells), (3, .ia t.cells), (5, .sl false (L.map wA) .full), (6, .sc (.int .i64 n)), (7, .sc (.int .i64 i)), (8, .ia [.sc (.int .i64 e1), .sc (.int .i64 e2)]), (9, .sl false (R.map intC) .unk)], [], [], 0⟩) (fun _ => True) ?_ ?_
 ·rw [Mach.cells] at hRun
  have hgL : (L.map wA)[n]? = some (wA (wordN t n)) := by rw [hL, List.map_map, List.getElem?_map, List.getElem?_range hnN]; rfl
  by_cases hx0 : wordN t n = []
  ·rw [hx0] at hgL hw
   have hgL2 : (L.map wA)[n]? = some [.sl true [] .zer] := hgL
   have hw1 : w.map natC = [[.sc (.int .i64 i)]] := by rw [hw]; rfl
   rw [hw1] at hRun
   apply EvC.drw mixed
   ·apply Tr.cons
    ·exact .op rfl (by simp only [go_sem] <;> rfl) (by simp only [go_sem] <;> rfl) rfl (by simp only [go_sem] <;> rfl)
    apply Tr.cons
    ·exact .op rfl (by simp only [go_sem] <;> rfl) (by simp only [go_sem] <;> rfl) rfl (by simp only [go_sem] <;> rfl)
    apply Tr.cons
    ·exact .op rfl (by simp only [go_sem] <;> rfl) (by simp only [go_sem] <;> rfl) rfl (by simp only [go_sem] <;> rfl)
    apply Tr.cons
    ·exact .op rfl (by simp only [go_sem] <;> rfl) (by simp only [go_sem] <;> rfl) rfl (by simp only [go_sem] <;> rfl)
    apply Tr.cons
    ·exact .op rfl (by simp only [go_sem] <;> rfl) (by simp only [go_sem, hnin, hgL2, hLl] <;> rfl) (by simp; try omega) (by simp only [go_sem] <;> rfl)
    apply Tr.cons
    ·exact .op rfl (by simp only [go_sem] <;> rfl) (by simp only [go_sem, hnin, hgL2, hLl] <;> rfl) (by simp; try omega) (by simp only [go_sem] <;> rfl)
    apply Tr.cons
    ·exact .appZ rfl rfl (by simp only [go_sem] <;> rfl) (by simp only [go_sem] <;> rfl) (by simp only [go_sem] <;> rfl) (by simp only [go_sem] <;> rfl) (by simp only [go_sem] <;> rfl) (by simp only [go_sem] <;> rfl) (by simp only [go_sem] <;> rfl)
    apply Tr.run
    ·simp only [go_sem] <;> rfl
    ·simp [room_eq]
    apply Tr.cons
    ·exact .callFz (i := 9) rfl rfl (by simp only [go_sem] <;> rfl) (by simp only [go_sem] <;> rfl) (by simp only [go_sem] <;> rfl) (by simp only [go_sem] <;> rfl) (by simp only [go_sem] <;> rfl) (by simp only [go_sem] <;> rfl) rfl (by simp only [go_sem] <;> rfl) hRun
    apply Tr.done
    ·simp only [go_sem] <;> rfl
    ·simp
   ·kernel_rfl
   exact ⟨rfl, (), trivial, fun c Q h => EvC.gcE [2, 3, 5, 6, 7, 8, 9] [] 0 rfl (by simp only [go_sem, Mach.cells] <;> rfl) h⟩
  have hx0l : (wordN t n).length ≠ 0 := fun h => hx0 (List.length_eq_zero_iff.1 h)
  have hx0e : (wordN t n).isEmpty = false := by cases hq : wordN t n with
   | nil => exact absurd hq hx0
   | cons _ _ => rfl
  have hgo2 : (L.map wA)[n]? = some [.sl false ((wordN t n).map natC) .unk] := by rw [hgL, wA, hx0e, wCp, if_neg hx0]
  have hsn : (wordN t n).map natC ++ [[.sc (.int .i64 i)]] = w.map natC := by rw [hw]; simp [natC]
  have hsl : (wordN t n).length + 1 = w.length := by rw [hw]; simp
  have hy : ∀ a ∈ wordN t n, (natC a).length = 1 := fun _ _ => rfl
  have hr3 : room (wordN t n).length 8 = true := by simp only [room_eq, decide_eq_true_eq]; omega
  have hr4 : room w.length 8 = true := by simp only [room_eq, decide_eq_true_eq]; omega
  apply EvC.drwA mixed
  ·apply Tr.run
   ·simp only [go_sem, hgo2, hnin, hLl, hsn, hsl, List.length_map] <;> rfl
   ·simp; exact ⟨⟨hr3, hy⟩, hr4⟩
   apply Tr.cons
   ·exact .callFz (i := 6) rfl rfl (by simp only [go_sem] <;> rfl) (by simp only [go_sem] <;> rfl) (by simp only [go_sem] <;> rfl) (by simp only [go_sem] <;> rfl) (by simp only [go_sem, List.length_map] <;> rfl) (by simp only [go_sem] <;> rfl) rfl (by simp only [go_sem] <;> rfl) hRun
   apply Tr.done
   ·simp only [go_sem] <;> rfl
   ·simp
  ·kernel_rfl
  exact ⟨rfl, (), trivial, fun c Q h => EvC.gcE [2, 3, 5, 6, 7, 8, 9] [] 0 rfl (by simp only [go_sem, Mach.cells] <;> rfl) h⟩
 intro _ _
 refine EvC.seq (EvC.rg (by simp only [go_sem] <;> rfl) (by simp) ?_)
 refine EvC.mergeC (α := Unit) (fun _ => ⟨[(2, .ia m.cells), (3, .ia t.cells), (5, .sl false (L.map wA) .full), (6, .sc (.int .i64 n)), (7, .sc (.int .i64 i)), (9, .sl false (R.map intC) .unk), (10, .sc (.int .i64 (outT (e1, e2))))], [], [], 0⟩) (fun _ => True) ?_ ?_
 ·by_cases h : e1 = -1
  ·have ho : outT (e1, e2) = -1 := by unfold outT; rw [if_pos h]
   rw [ho]
   refine EvC.seq (EvC.rg (by simp only [go_sem] <;> rfl) (by simp) ?_)
   refine EvC.cond_true (by simp only [go_sem, decide_eq_true h] <;> rfl) ?_
   refine EvC.rg (by simp only [go_sem] <;> rfl) (by simp) ?_
   exact ⟨rfl, (), trivial, fun c Q h => EvC.gcE [2, 3, 5, 6, 7, 9, 10] [] 0 rfl (by simp only [go_sem, Mach.cells] <;> rfl) h⟩
  ·have ho : outT (e1, e2) = e2 := by unfold outT; rw [if_neg h]
   rw [ho]
   refine EvC.seq (EvC.rg (by simp only [go_sem] <;> rfl) (by simp) ?_)
   refine EvC.cond_false (by simp only [go_sem, decide_eq_false h] <;> rfl) ?_
   refine EvC.skip ?_
   exact ⟨rfl, (), trivial, fun c Q h => EvC.gcE [2, 3, 5, 6, 7, 9, 10] [] 0 rfl (by simp only [go_sem, Mach.cells] <;> rfl) h⟩
 intro _ _
 generalize outT (e1, e2) = o at hok
 have hlt : ((w.length : Int) - 1).toNat = w.length - 1 := by omega
 have hlast2 : (R.map intC)[w.length - 1]? = some (intC y) := by rw [List.getElem?_map, hlast]; rfl
 have hRl : (R.map intC).length = w.length := by rw [List.length_map, hrl]
 refine EvC.seq (EvC.rg (by simp only [go_sem, hRl, hlt, hlast2, intC] <;> rfl) (by simp; exact ⟨inI64_of (by omega) (by omega), by omega⟩) ?_)
 by_cases hyo : y = o
 rotate_left
 ·rw [decide_eq_false hyo] at hok
  have hB : B = false := by
   cases B with
   | false => rfl
   | true => have := hiff.1 rfl n i (by omega) hi; rw [hok] at this; cases this
  subst hB
  refine EvC.cond_true (by simp only [go_sem, decide_eq_false hyo] <;> rfl) ?_
  refine EvC.seq (EvC.rg (by simp only [go_sem] <;> rfl) (by simp) ?_)
  refine EvC.ret ⟨.inl rfl, _, (by simp only [go_sem] <;> rfl), ?_, rfl⟩
  simp only [go_sem]
 rw [decide_eq_true hyo] at hok
 refine EvC.cond_false (by simp only [go_sem, decide_eq_true hyo] <;> rfl) ?_
 refine EvC.skip ?_
 refine EvC.rg (by simp only [go_sem] <;> rfl) (by exact inI64_of (by omega) (by omega)) ?_
 refine ⟨[], i + 1, rfl, (by simp only [go_sem, Mach.cells, Int.natCast_add, Int.natCast_one] <;> rfl), ⟨by omega, fun j hj => ?_⟩, by omega⟩
 by_cases e : j = i
 ·subst e; rw [hok]; rfl
 ·exact g2 j (by omega)
end Go.Avl
namespace Go.Avl
open Go Go.Proofs.Try
set_option maxRecDepth 10000
set_option linter.unusedSimpArgs false
def aftZ (m : Mach) : Int → List Int → Int
 | s, [] => s
 | s, a :: w => aftZ m (stepR m s a).1 w
theorem aftZ_cast (m : Mach) : ∀ (s : Int) (w : List Nat), aftZ m s (castW w) = aftI m s w
 | _, [] => rfl
 | _, _ :: w => aftZ_cast m _ w
theorem runR_at (m : Mach) : ∀ (s : Int) (w : List Int) (k : Nat) (a : Int), w[k]? = some a → (runR m s w)[k]? = some (stepR m (aftZ m s (w.take k)) a).2
 | s, [], k, a, h => by simp at h
 | s, x :: w, 0, a, h => by
   simp at h; subst h
   simp [runR, aftZ]
 | s, x :: w, k + 1, a, h => by
   rw [runR, List.getElem?_cons_succ, List.take_succ_cons, aftZ]
   exact runR_at m _ w k a (by simpa using h)
theorem aftZ_snoc (m : Mach) (a : Int) : ∀ (s : Int) (w : List Int), aftZ m s (w ++ [a]) = (stepR m (aftZ m s w) a).1
 | _, [] => rfl
 | _, _ :: w => aftZ_snoc m a _ w
theorem treeM_edge {ins : Nat} {outs : Int} {L : List TR} {n i : Nat} {x : List Int} (hx : (nodesL L)[n]? = some x) (hi : i < ins) : eT (treeM ins outs L) n i = edgeOf L (nodesL L) (x ++ [(i : Int)]) := by
 unfold eT treeM
 simp only [List.getElem?_map, hx, Option.map_some, Option.getD_some, treeRow]
 rw [List.getElem?_range hi]; rfl
theorem nodesL_get {L : List TR} {w : List Int} (h : w ∈ nodesL L) : (nodesL L)[(nodesL L).idxOf w]? = some w := by
 have hl := List.idxOf_lt_length_of_mem h
 rw [List.getElem?_eq_getElem hl, List.getElem_idxOf hl]
theorem wordN_tree {ins : Nat} {outs : Int} {L : List TR} (hv : ∀ t ∈ L, TrVal ins outs t) (hc : Cons L) (v : TV (treeM ins outs L)) (tp : TP (treeM ins outs L)) : ∀ n, n < (nodesL L).length → (nodesL L)[n]? = some (castW (wordN (treeM ins outs L) n)) := by
 have hlen : (treeM ins outs L).rows.length = (nodesL L).length := by simp [treeM]
 intro n
 induction n using Nat.strongRecOn with
 | _ n ih =>
   intro hn
   by_cases h0 : n = 0
   ·subst h0
    rw [kids_all hv, wordN_zero]; rfl
   ·have hp := parT_lt v tp (n := n) (by omega) (by omega)
    have he := parT_to v tp (n := n) (by omega) (by omega)
    have hw := wordN_eq v tp (n := n) (by omega) (by omega)
    have hx := ih _ hp.1 (by omega)
    have hi : (parT (treeM ins outs L) n).2 < ins := by have : ((parT (treeM ins outs L) n).2 : Int) < (ins : Int) := hp.2; omega
    rw [treeM_edge hx hi] at he
    rcases edge_cases hv hc (w := castW (wordN (treeM ins outs L) (parT (treeM ins outs L) n).1) ++ [((parT (treeM ins outs L) n).2 : Int)]) (by simp) with ⟨_, h1⟩ | ⟨h1, k, _, _, _, h2⟩
    ·rcases h1 with h1 | h1 <;> (rw [h1] at he; simp only at he; omega)
    ·rw [h2] at he
     simp only at he
     have hg := nodesL_get h1
     rw [show (nodesL L).idxOf (castW (wordN (treeM ins outs L) (parT (treeM ins outs L) n).1) ++ [((parT (treeM ins outs L) n).2 : Int)]) = n by omega] at hg
     rw [hg, hw, castW, castW, List.map_append]; rfl
theorem tree_fit {ins : Nat} {outs : Int} {L : List TR} (hv : ∀ t ∈ L, TrVal ins outs t) (hc : Cons L) (hck : checkT (treeM ins outs L) = 0) {m : Mach} (vm : Valid m) (hins : m.ins = ins) :
  fitB (treeM ins outs L) m = true ↔ ∀ t ∈ L, runR m 0 t.w = t.r := by
 have v := TV.of hck
 have tp := TP.of hck
 have hlen : (treeM ins outs L).rows.length = (nodesL L).length := by simp [treeM]
 have hti : (treeM ins outs L).ins = ins := rfl
 rw [fitB_iff v tp vm (by rw [hti]; exact hins), hlen, hti]
 have hok : ∀ n i : Nat, n < (nodesL L).length → i < ins → ∃ x, (nodesL L)[n]? = some x ∧ okW (treeM ins outs L) m n i = (!knownE (edgeOf L (nodesL L) (x ++ [(i : Int)])) || decide ((stepR m (aftZ m 0 x) (i : Int)).2 = outT (edgeOf L (nodesL L) (x ++ [(i : Int)])))) := fun n i hn hi => by
  have hx := wordN_tree hv hc v tp n hn
  refine ⟨_, hx, ?_⟩
  rw [okW, treeM_edge hx hi, aftZ_cast]
 have hout : ∀ (x : List Int) (a o : Int), lastL L (x ++ [a]) = some o → knownE (edgeOf L (nodesL L) (x ++ [a])) = true ∧ outT (edgeOf L (nodesL L) (x ++ [a])) = o := fun x a o h => by
  have he : edgeOf L (nodesL L) (x ++ [a]) = if o = -1 then (-1, -2) else (posOf (nodesL L) (x ++ [a]), o) := by rw [edgeOf, h]
  by_cases ho : o = -1
  ·rw [if_pos ho] at he
   rw [he, ho]; exact ⟨rfl, rfl⟩
  ·rw [if_neg ho] at he
   rcases edge_cases hv hc (w := x ++ [a]) (by simp) with ⟨_, h1⟩ | ⟨_, k, h1, _, _, h2⟩
   ·obtain ⟨t, ht, hw, hr⟩ := lastL_mem h
    have hkl : (x ++ [a]).length - 1 < t.r.length := by
     have := hw.1
     have := (hv t ht).len
     simp at *; omega
    rcases (hv t ht).get hkl with h3 | h3
    ·rcases h1 with h1 | h1 <;> (rw [he] at h1; have := congrArg Prod.snd h1; simp only at this; omega)
    ·omega
   ·rw [h2]
    have : k = o := by rw [h] at h1; exact (Option.some.inj h1).symm
    subst this
    have hne : ((((nodesL L).idxOf (x ++ [a]) : Nat) : Int)) ≠ -1 := by omega
    exact ⟨knownE_to hne, by unfold outT; rw [if_neg hne]⟩
 constructor
 ·intro H t ht
  have tv := hv t ht
  have key : ∀ k a, t.w[k]? = some a → k ≤ preN t.r → (stepR m (aftZ m 0 (t.w.take k)) a).2 = (t.r[k]?).getD 0 := fun k a ha hk => by
   have hkl : k < t.w.length := (List.getElem?_eq_some_iff.1 ha).1
   have hnode : t.w.take k ∈ nodesL L := by
    rw [mem_nodesL]
    by_cases h0 : k = 0
    ·subst h0; exact .inl (by simp)
    ·exact .inr ⟨t, ht, k - 1, by omega, by rw [show k - 1 + 1 = k by omega]⟩
   have hn := List.idxOf_lt_length_of_mem hnode
   have hs := tv.sym a (List.mem_of_getElem? ha)
   obtain ⟨i, hi⟩ : ∃ i : Nat, a = (i : Int) := ⟨a.toNat, by omega⟩
   subst hi
   obtain ⟨x, hx, hxo⟩ := hok _ i hn (by omega)
   rw [nodesL_get hnode] at hx
   cases hx
   have htk : t.w.take k ++ [(i : Int)] = t.w.take (k + 1) := by rw [List.take_succ, ha]; rfl
   have hl := hc.last ht (w := t.w.take (k + 1)) (by rw [← htk]; simp) (hasW_take t (k + 1))
   rw [show (t.w.take (k + 1)).length - 1 = k by rw [List.length_take]; omega, ← htk] at hl
   obtain ⟨h1, h2⟩ := hout _ _ _ hl
   have h3 := H _ i hn (by omega)
   rw [hxo, h1, h2] at h3
   simpa using h3
  have hneg : ∀ k, preN t.r < k → k ≤ t.w.length → aftZ m 0 (t.w.take k) < 0 := by
   intro k
   induction k with
   | zero => intro h; omega
   | succ k ih =>
     intro h1 h2
     have ha : t.w[k]? = some t.w[k] := List.getElem?_eq_getElem (by omega)
     rw [List.take_succ, ha]
     simp only [Option.toList_some]
     rw [aftZ_snoc]
     by_cases hk : k = preN t.r
     ·have h3 := key k _ ha (by omega)
      have hrl : k < t.r.length := by rw [tv.len]; omega
      have hr : (t.r[k]?).getD 0 = -1 := by
       rcases tv.get hrl with h | h
       ·omega
       ·exact h.2
      rw [hr] at h3
      have hs := tv.sym _ (List.mem_of_getElem? ha)
      by_cases hneg : aftZ m 0 (t.w.take k) < 0
      ·rw [stepR_neg hneg]; decide
      ·obtain ⟨s, hs'⟩ : ∃ s : Nat, aftZ m 0 (t.w.take k) = (s : Int) := ⟨_, (Int.toNat_of_nonneg (by omega)).symm⟩
       obtain ⟨i, hi⟩ : ∃ i : Nat, t.w[k] = (i : Int) := ⟨(t.w[k]).toNat, by omega⟩
       rw [hs', hi, stepR_eT] at h3 ⊢
       by_cases hsl : s < m.rows.length
       ·obtain ⟨_, _, _, _, he⟩ := vm.edge hsl (i := i) (by omega)
        rcases he with he | he
        ·rw [he]; decide
        ·omega
       ·have : m.rows[s]? = none := List.getElem?_eq_none (by omega)
        simp [eT, this]
     ·rw [stepR_neg (ih (by omega) (by omega))]; decide
  apply List.ext_getElem?
  intro k
  by_cases hk : k < t.w.length
  ·have ha : t.w[k]? = some t.w[k] := List.getElem?_eq_getElem hk
   have hrl : k < t.r.length := by rw [tv.len]; exact hk
   have hr : t.r[k]? = some ((t.r[k]?).getD 0) := by rw [List.getElem?_eq_getElem hrl]; rfl
   rw [runR_at m 0 t.w k _ ha, hr]
   congr 1
   by_cases hp : k ≤ preN t.r
   ·exact key k _ ha hp
   ·rw [stepR_neg (hneg k (by omega) (by omega))]
    rcases tv.get hrl with h | h
    ·omega
    ·exact h.2.symm
  ·rw [List.getElem?_eq_none (by rw [runR_len]; omega), List.getElem?_eq_none (by rw [tv.len]; omega)]
 ·intro H n i hn hi
  obtain ⟨x, hx, hxo⟩ := hok n i hn (by omega)
  rw [hxo]
  cases hl : lastL L (x ++ [(i : Int)]) with
  | none => rw [edgeOf, hl]; rfl
  | some o =>
    obtain ⟨h1, h2⟩ := hout _ _ _ hl
    rw [h1, h2]
    obtain ⟨t, ht, hw, hr⟩ := lastL_mem hl
    have hwl := hw.1
    rw [List.length_append, List.length_singleton] at hwl
    have hxt := hw.2
    rw [List.length_append, List.length_singleton] at hxt
    have ha : t.w[x.length]? = some (i : Int) := by
     have := congrArg (fun l => l[x.length]?) hxt
     simp only [List.getElem?_append_right (Nat.le_refl _), Nat.sub_self] at this
     rw [List.getElem?_take, if_pos (by omega)] at this
     exact this
    have hxx : t.w.take x.length = x := by
     have := congrArg (fun l => l.take x.length) hxt
     simp only [List.take_left', List.take_take] at this
     rw [Nat.min_eq_left (by omega)] at this
     rw [this]
    have hrun := runR_at m 0 t.w x.length _ ha
    rw [H t ht, hxx] at hrun
    rw [List.length_append, List.length_singleton, Nat.add_sub_cancel, hrun] at hr
    simp [hr]
end Go.Avl
namespace Go.Avl
open Go Go.Proofs.Try
set_option maxRecDepth 10000
set_option linter.unusedSimpArgs false
def diffK : List Int → List Int → Nat → Option Nat
 | x :: xs, y :: ys, k => if x ≠ y then some k else diffK xs ys (k + 1)
 | _, _, _ => none
theorem diffK_none : ∀ {a b : List Int} {k : Nat}, a.length = b.length → (diffK a b k = none ↔ a = b)
 | [], [], _, _ => by simp [diffK]
 | [], _ :: _, _, h => by simp at h
 | _ :: _, [], _, h => by simp at h
 | x :: a, y :: b, k, h => by
   rw [diffK]
   by_cases e : x = y
   ·rw [if_neg (fun h => h e), diffK_none (by simpa using h), e]; simp
   ·rw [if_pos e]; simp [e]
theorem diffK_drop {a b : List Int} {k : Nat} {x y : Int} (hx : a[k]? = some x) (hy : b[k]? = some y) : diffK (a.drop k) (b.drop k) k = if x ≠ y then some k else diffK (a.drop (k + 1)) (b.drop (k + 1)) (k + 1) := by
 obtain ⟨h1, h2⟩ := List.getElem?_eq_some_iff.1 hx
 obtain ⟨h3, h4⟩ := List.getElem?_eq_some_iff.1 hy
 rw [List.drop_eq_getElem_cons h1, List.drop_eq_getElem_cons h3, diffK, h2, h4]
def agst (m : Mach) : List TR → Nat → Int × Int × Bool
 | [], _ => (0, 0, false)
 | t :: L, i => match diffK (runR m 0 t.w) t.r 0 with
   | some k => (i, k, true)
   | none => agst m L (i + 1)
theorem agst_drop {m : Mach} {L : List TR} {i : Nat} {t : TR} (h : L[i]? = some t) : agst m (L.drop i) i = match diffK (runR m 0 t.w) t.r 0 with
  | some k => ((i : Int), (k : Int), true)
  | none => agst m (L.drop (i + 1)) (i + 1) := by
 obtain ⟨h1, h2⟩ := List.getElem?_eq_some_iff.1 h
 rw [List.drop_eq_getElem_cons h1, agst, h2]; all_goals rfl
theorem agst_iff {m : Mach} : ∀ {L : List TR} {i : Nat}, (∀ t ∈ L, t.r.length = t.w.length) → ((agst m L i).2.2 = false ↔ ∀ t ∈ L, runR m 0 t.w = t.r)
 | [], _, _ => by simp [agst]
 | t :: L, i, h => by
   have ht := h t List.mem_cons_self
   rw [agst]
   cases hd : diffK (runR m 0 t.w) t.r 0 with
   | some k =>
     simp only
     constructor
     ·intro h; cases h
     ·intro h
      have := (diffK_none (k := 0) (by rw [runR_len, ht])).2 (h t List.mem_cons_self)
      rw [hd] at this; cases this
   | none =>
     simp only
     rw [agst_iff fun u hu => h u (List.mem_cons_of_mem _ hu)]
     have := (diffK_none (by rw [runR_len, ht])).1 hd
     simp [this]
set_option maxHeartbeats 8000000 in
theorem against29_is {m : Mach} (vm : Valid m) (i o : Int) (nl : Bool) (L : List TR) (c : Cp) (hL : ∀ t ∈ L, TrOk t) (hw : ∀ t ∈ L, ∀ a ∈ t.w, 0 ≤ a ∧ a < m.ins) (hl : L.length < 1000000) :
  PureIs prog 29 [.ag m.cells, .ag [.sc (.int .i64 i), .sc (.int .i64 o), .sl nl (L.map traceC) c]] (.tu [.ag [.sc (.int .i64 (agst m L 0).1), .sc (.int .i64 (agst m L 0).2.1)], .sc (.bool (agst m L 0).2.2)]) := by
 obtain ⟨A, hA⟩ : ∃ A, A = agst m L 0 := ⟨_, rfl⟩
 rw [← hA]
 have hA : A = agst m (L.drop 0) 0 := hA
 refine PureIs.of (nv := 2) (hid := [2, 3, 4, 5, 6, 7, 8, 13, 27, 43]) func29 rfl (by kernel_rfl) (by simp [ntmps29]) fun _ => ?_
 rw [ntmps29, results29]
 refine EvC.seq (EvC.rg (by simp only [go_sem, Mach.cells] <;> rfl) (by simp) ?_)
 refine EvC.frzB 0 (by simp only [go_sem] <;> rfl) ?_
 refine EvC.frzB 1 (by simp only [go_sem] <;> rfl) ?_
 refine EvC.seq ?_
 refine EvC.seq (EvC.rg (by simp only [go_sem] <;> rfl) (by simp) ?_)
 refine EvC.block ?_
 refine EvC.loopS (σ := Nat) (fun b => ⟨[(2, .ia m.cells), (3, .ia [.sc (.int .i64 i), .sc (.int .i64 o), .sl nl (L.map traceC) c]), (4, .rf 0 0), (5, .sc (.bool false)), (6, .sc (.int .i64 b))], [], [(0, .cells [.sc (.int .i64 0), .sc (.int .i64 0)])], 1⟩) (fun b => L.length - b) (fun b => b ≤ L.length ∧ A = agst m (L.drop b) b) [2, 3, 4, 5, 6] 1 ?_ ?_
 ·refine ⟨[(2, 0)], 0, rfl, (by simp only [go_sem, Mach.cells, Int.natCast_zero] <;> rfl), Nat.zero_le _, hA⟩
 clear hA
 rintro b ⟨h1, h2⟩
 have hbin : (b : Int).toNat = b := Int.toNat_natCast b
 refine EvC.seq ?_
 refine EvC.seq (EvC.rg (by simp only [go_sem, List.length_map] <;> rfl) (by simp) ?_)
 refine EvC.cond (by simp only [go_sem] <;> rfl) (fun hc => ?_) (fun hc => ?_)
 rotate_left
 ·
  have hc : ¬ b < L.length := by simpa using hc
  rw [List.drop_of_length_le (by omega), agst] at h2
  subst h2
  refine EvC.exit ?_
  refine EvC.seq (EvC.rg (by simp only [go_sem] <;> rfl) (by simp) ?_)
  refine EvC.ret ⟨.inl rfl, _, (by simp only [go_sem] <;> rfl), ?_, rfl⟩
  simp only [go_sem]
 have hb : b < L.length := by simpa using hc
 clear hc
 refine EvC.skip ?_
 refine EvC.seq ?_
 refine EvC.block ?_
 have hy : L[b]? = some (L[b]'hb) := List.getElem?_eq_getElem hb
 have hyk := hL _ (List.getElem_mem hb)
 have hyw := hw _ (List.getElem_mem hb)
 generalize L[b]'hb = t at hy hyk hyw
 rw [agst_drop hy] at h2
 have hRun := run04_is vm 0 (by have := vm.rows; omega) t.w.isEmpty t.w .unk hyw (by have := hyk.small; omega)
 have hRl : (runR m 0 t.w).length = t.r.length := by rw [runR_len, hyk.len]
 have hRs : t.r.length ≤ 1000 := by rw [hyk.len]; exact hyk.small
 generalize runR m 0 t.w = R at hRun hRl h2
 rw [Mach.cells] at hRun
 apply EvC.seq
 apply EvC.drw mixed
 ·apply Tr.run
  ·simp only [go_sem, Mach.cells, hy, hbin, traceC, List.length_map] <;> rfl
  ·simp; try omega
  apply Tr.cons
  ·exact .call rfl rfl (by simp only [go_sem] <;> rfl) (by simp only [go_sem] <;> rfl) (by simp only [go_sem] <;> rfl) (by simp only [go_sem] <;> rfl) (by simp only [go_sem] <;> rfl) (hRun)
  apply Tr.done
  ·simp only [go_sem] <;> rfl
  ·simp
 ·kernel_rfl
 refine EvC.seq (EvC.rg (by simp only [go_sem] <;> rfl) (by simp) ?_)
 refine EvC.block ?_
 obtain ⟨D, hD⟩ : ∃ D, D = diffK R t.r 0 := ⟨_, rfl⟩
 rw [← hD] at h2
 have hD : D = diffK (R.drop 0) (t.r.drop 0) 0 := hD
 refine EvC.loopS (σ := Nat) (fun k => ⟨[(2, .ia m.cells), (3, .ia [.sc (.int .i64 i), .sc (.int .i64 o), .sl nl (L.map traceC) c]), (4, .rf 0 0), (5, .sc (.bool false)), (6, .sc (.int .i64 b)), (7, .sl R.isEmpty (R.map intC) .unk), (8, .sc (.int .i64 k))], [], [(0, .cells [.sc (.int .i64 0), .sc (.int .i64 0)])], 1⟩) (fun k => R.length - k) (fun k => k ≤ R.length ∧ D = diffK (R.drop k) (t.r.drop k) k) [2, 3, 4, 5, 6, 7, 8] 1 ?_ ?_
 ·refine ⟨[(0, 0)], 0, rfl, (by simp only [go_sem, Mach.cells, Int.natCast_zero] <;> rfl), Nat.zero_le _, hD⟩
 clear hD
 rintro k ⟨g1, g2⟩
 have hkin : (k : Int).toNat = k := Int.toNat_natCast k
 refine EvC.seq ?_
 refine EvC.seq (EvC.rg (by simp only [go_sem, List.length_map] <;> rfl) (by simp) ?_)
 refine EvC.cond (by simp only [go_sem] <;> rfl) (fun hc => ?_) (fun hc => ?_)
 rotate_left
 ·
  have hc : ¬ k < R.length := by simpa using hc
  rw [List.drop_of_length_le (by omega), diffK] at g2
  subst g2
  refine EvC.exit ?_
  refine EvC.rg (by simp only [go_sem] <;> rfl) (by exact inI64_of (by omega) (by omega)) ?_
  exact ⟨[(0, 0)], b + 1, rfl, (by simp only [go_sem, Mach.cells, Int.natCast_add, Int.natCast_one] <;> rfl), ⟨hb, h2⟩, by omega⟩
  intro _ _ _ _ h; cases h
 have hk : k < R.length := by simpa using hc
 clear hc
 refine EvC.skip ?_
 refine EvC.seq ?_
 refine EvC.block ?_
 have hx1 : R[k]? = some (R[k]'hk) := List.getElem?_eq_getElem hk
 have hx2 : t.r[k]? = some (t.r[k]'(by omega)) := List.getElem?_eq_getElem (by omega)
 generalize R[k]'hk = x at hx1
 generalize t.r[k]'(by omega) = y at hx2
 rw [diffK_drop hx1 hx2] at g2
 apply EvC.seq
 apply EvC.drd mixed
 ·simp only [go_sem, Mach.cells, hy, hx1, hx2, hkin, hbin, intC, traceC, List.length_map] <;> rfl
 ·simp; try omega
 ·kernel_rfl
 by_cases hxy : x = y
 rotate_left
 ·rw [if_pos hxy] at g2
  subst g2
  simp only at h2
  subst h2
  refine EvC.cond_true (by simp only [go_sem, decide_eq_false hxy] <;> rfl) ?_
  refine EvC.seq (EvC.rg (by simp only [go_sem] <;> rfl) (by simp) ?_)
  refine EvC.ret ⟨.inl rfl, _, (by simp only [go_sem] <;> rfl), ?_, rfl⟩
  simp only [go_sem]
 rw [if_neg (fun h => h hxy)] at g2
 refine EvC.cond_false (by simp only [go_sem, decide_eq_true hxy] <;> rfl) ?_
 refine EvC.skip ?_
 refine EvC.rg (by simp only [go_sem] <;> rfl) (by exact inI64_of (by omega) (by omega)) ?_
 exact ⟨[(0, 0)], k + 1, rfl, (by simp only [go_sem, Mach.cells, Int.natCast_add, Int.natCast_one] <;> rfl), ⟨by omega, g2⟩, by omega⟩
end Go.Avl
namespace Go.Avl
open Go Go.Proofs.Try
set_option maxRecDepth 10000
set_option linter.unusedSimpArgs false
theorem runs_cons {m : Mach} {L : List TR} (h : ∀ t ∈ L, t.r = runR m 0 t.w) : Cons L := by
 intro t ht u hu w hw h1 h2
 have hl : w.length ≠ 0 := fun h => hw (List.length_eq_zero_iff.1 h)
 have key : ∀ t : TR, hasW t w → (runR m 0 t.w)[w.length - 1]? = (runR m 0 w)[w.length - 1]? := fun t h => by
  have ha : t.w[w.length - 1]? = w[w.length - 1]? := by
   have := congrArg (fun l => l[w.length - 1]?) h.2
   rw [List.getElem?_take, if_pos (by omega)] at this
   exact this
  have hb : t.w.take (w.length - 1) = w.take (w.length - 1) := by
   have := congrArg (fun l => l.take (w.length - 1)) h.2
   rw [List.take_take, Nat.min_eq_left (by omega)] at this
   exact this
  have hg : w[w.length - 1]? = some (w[w.length - 1]'(by omega)) := List.getElem?_eq_getElem (by omega)
  rw [runR_at m 0 t.w _ _ (ha.trans hg), runR_at m 0 w _ _ hg, hb]
 rw [h t ht, h u hu, key t h1, key u h2]
theorem Valid.checkM {m : Mach} (v : Valid m) : checkM m = 0 := by
 have h1 := v.ins
 have h2 := v.outs
 have h3 := v.rows
 unfold Go.Avl.checkM
 rw [if_neg (by omega), if_neg (by omega), if_pos]
 rw [List.all_eq_true]
 intro r hr
 obtain ⟨h4, h5⟩ := v.row r hr
 unfold rowOk
 rw [decide_eq_true h4, Bool.true_and, Bool.not_eq_true', List.any_eq_false]
 intro e he
 rw [h5 e he]; simp
def LG.fit (g : LG) : List TR := if conB g.log then g.runs else g.log
theorem LG.runs_run {g : LG} : ∀ t ∈ g.runs, t.r = runR g.m.mach 0 t.w := fun t ht => by
 obtain ⟨y, _, rfl⟩ := List.mem_map.1 ht
 rfl
theorem LG.fit_val {g : LG} (hg : g.Ok) : (∀ t ∈ g.fit, TrVal g.m.mach.ins.toNat g.m.mach.outs t) ∧ Cons g.fit ∧ g.fit.length ≤ 12 ∧ ∀ t ∈ g.fit, t.w.length ≤ 10 := by
 unfold LG.fit
 cases h : conB g.log with
 | true => exact ⟨LG.runs_val hg, runs_cons LG.runs_run, runsTo_len _ _ _, LG.runs_short⟩
 | false => exact ⟨LG.log_val hg, Cons.of (fun t ht => (LG.log_val hg t ht).len) h, LG.log_len.1, LG.log_len.2⟩
theorem LG.fit_trok {g : LG} (hg : g.Ok) : ∀ t ∈ g.fit, TrOk t := fun t ht => ⟨((LG.fit_val hg).1 t ht).len, by have := (LG.fit_val hg).2.2.2 t ht; omega⟩
theorem tree_check {ins : Int} {outs : Int} {L : List TR} (hv : ∀ t ∈ L, TrVal ins.toNat outs t) (hc : Cons L) (hl : L.length ≤ 12) (hw : ∀ t ∈ L, t.w.length ≤ 10) (hi : 1 ≤ ins ∧ ins ≤ 16) (ho : 1 ≤ outs ∧ outs ≤ 16) : checkT (treeM ins.toNat outs L) = 0 := by
 have hk : ∀ t ∈ L, TrOk t := fun t ht => ⟨(hv t ht).len, by have := hw t ht; omega⟩
 have := nodesL_len hk
 exact checkT_tree hv hc (by omega) ho (by omega)
set_option maxHeartbeats 8000000 in
theorem mergesFits_is {g : LG} (hg : g.Ok) {y : LM} (hy : y.Ok) : PureIs prog 6 [.ag g.cells, .ag y.cells] (.sc (.bool true)) := by
 obtain ⟨hv, hc, hl, hw⟩ := LG.fit_val hg
 have hk := LG.fit_trok hg
 have va := LM.valid hg.m
 have vy := LM.valid hy
 have hL := lives15_is
 have hO := of12_is hg
 have hR := runs26_is hg
 have hCo := contra25_is g.m.mach.ins g.m.mach.outs g.log.isEmpty g.log .unk (fun t ht => ⟨(LG.log_val hg t ht).len, by have := (LG.log_len (g := g)).2 t ht; omega⟩) (by have := (LG.log_len (g := g)).1; omega)
 have hins : ((g.m.mach.ins.toNat : Nat) : Int) = g.m.mach.ins := Int.toNat_of_nonneg (by have := va.ins; omega)
 have hT := tree27_is g.m.mach.ins.toNat g.m.mach.outs g.fit.isEmpty g.fit .unk hk (by omega) (by have := va.ins; omega)
 have hck := tree_check hv hc hl hw va.ins va.outs
 have hM := mOf_is hg.m
 have hY := mOf_is hy
 have v := TV.of hck
 have tp := TP.of hck
 have hti : (treeM g.m.mach.ins.toNat g.m.mach.outs g.fit).ins = g.m.mach.ins := hins
 have cm : checkM g.m.mach = 0 := va.checkM
 have cy : checkM y.mach = 0 := vy.checkM
 have hmr := fun (m : Mach) (vm : Valid m) r (hr : r ∈ m.rows) => show r.2.length < 1000000 by have := (vm.row r hr).1; have := vm.ins; omega
 have f1 := fits23_is (treeM g.m.mach.ins.toNat g.m.mach.outs g.fit) g.m.mach v.short (hmr _ va)
 have f2 := fits24_is v tp va hti.symm
 have f3 := fits23_is (treeM g.m.mach.ins.toNat g.m.mach.outs g.fit) y.mach v.short (hmr _ vy)
 have a1 := against29_is va g.m.mach.ins g.m.mach.outs g.fit.isEmpty g.fit .unk hk (fun t ht a ha => by have := (hv t ht).sym a ha; omega) (by omega)
 have a2 := fun h : y.mach.ins = g.m.mach.ins => against29_is vy g.m.mach.ins g.m.mach.outs g.fit.isEmpty g.fit .unk hk (fun t ht a ha => by have := (hv t ht).sym a ha; omega) (by omega)
 have e1 : fitB (treeM g.m.mach.ins.toNat g.m.mach.outs g.fit) g.m.mach = !(agst g.m.mach g.fit 0).2.2 := by
  have h1 := tree_fit hv hc hck va hins.symm
  have h2 := agst_iff (m := g.m.mach) (i := 0) fun t ht => (hv t ht).len
  rw [← h2] at h1
  cases hx : (agst g.m.mach g.fit 0).2.2 <;> cases hz : fitB (treeM g.m.mach.ins.toNat g.m.mach.outs g.fit) g.m.mach <;> simp [hx, hz] at h1 ⊢
 have e2 : y.mach.ins = g.m.mach.ins → fitB (treeM g.m.mach.ins.toNat g.m.mach.outs g.fit) y.mach = !(agst y.mach g.fit 0).2.2 := fun h => by
  have h1 := tree_fit hv hc hck vy (h.trans hins.symm)
  have h2 := agst_iff (m := y.mach) (i := 0) fun t ht => (hv t ht).len
  rw [← h2] at h1
  cases hx : (agst y.mach g.fit 0).2.2 <;> cases hz : fitB (treeM g.m.mach.ins.toNat g.m.mach.outs g.fit) y.mach <;> simp [hx, hz] at h1 ⊢
 unfold fitAns at f1 f3
 rw [cm, hck, hti, if_neg (by simp), if_neg (by simp), if_neg (fun h => h rfl), e1] at f1
 rw [cy, hck, hti, if_neg (by simp), if_neg (by simp)] at f3
 rw [e1] at f2
 rw [hins] at hT
 have hfit : g.fit = if (conR g.log).2.2.2 then g.runs else g.log := rfl
 generalize treeM g.m.mach.ins.toNat g.m.mach.outs g.fit = t at hT f1 f2 f3 e2 hti
 generalize g.fit = Lf at hT a1 a2 e2 f1 f2 hfit
 generalize agst g.m.mach Lf 0 = A1 at f1 f2 a1
 obtain ⟨A11, A12, A13⟩ := A1
 generalize conR g.log = C at hCo hfit
 obtain ⟨C1, C2, C3, C4⟩ := C
 simp only at hfit hCo f1 f2 a1
 unfold logA at hO
 generalize g.m.mach = gm at *
 generalize y.mach = ym at *
 rw [Mach.cells] at hT hM hY f1 f2 f3 a1
 unfold LG.cells at *
 unfold LM.cells at *
 refine PureIs.of (nv := 5) (hid := [5, 6, 7, 8, 9, 10, 11, 12, 13, 14, 22, 58, 71]) func6 rfl (by kernel_rfl) (by simp [ntmps6]) fun _ => ?_
 rw [ntmps6, results6]
 refine EvC.seq (EvC.rg (by simp only [go_sem] <;> rfl) (by simp) ?_)
 refine EvC.frzB 0 (by simp only [go_sem] <;> rfl) ?_
 refine EvC.frzB 1 (by simp only [go_sem] <;> rfl) ?_
 refine EvC.gc [2, 3] [] 0 rfl ?_
 apply EvC.seq
 apply EvC.tr
 ·apply Tr.run
  ·simp only [go_sem] <;> rfl
  ·simp
  apply Tr.cons
  ·exact .call rfl rfl (by simp only [go_sem] <;> rfl) (by simp only [go_sem] <;> rfl) (by simp only [go_sem] <;> rfl) (by simp only [go_sem] <;> rfl) (by simp only [go_sem] <;> rfl) (hO)
  apply Tr.done
  ·simp only [go_sem] <;> rfl
  ·simp
 refine EvC.mergeC (α := Unit) (fun _ => ⟨[(2, .ia [.sc (.int .u8 g.m.st), .sc (.int .u8 g.m.ins), .sc (.int .u8 g.m.outs), .sc (.bool g.m.part), .sl g.m.nl (g.m.es.map u16C) g.m.cap, .sl g.wn (g.ws.map wbR) g.wc, .sc (.int .u8 g.at'), .sc (.int .u8 g.step), .sc (.int .u8 g.by')]), (3, .ia [.sc (.int .u8 y.st), .sc (.int .u8 y.ins), .sc (.int .u8 y.outs), .sc (.bool y.part), .sl y.nl (y.es.map u16C) y.cap]), (5, .ia [.sc (.int .i64 gm.ins), .sc (.int .i64 gm.outs), .sl Lf.isEmpty (Lf.map traceC) .unk])], [], [], 0⟩) (fun _ => True) ?_ ?_
 ·cases C4 with
  | false =>
    rw [if_neg (by simp)] at hfit
    subst hfit
    apply EvC.seq
    apply EvC.tr
    ·apply Tr.run
     ·simp only [go_sem] <;> rfl
     ·simp
     apply Tr.cons
     ·exact .call rfl rfl (by simp only [go_sem] <;> rfl) (by simp only [go_sem] <;> rfl) (by simp only [go_sem] <;> rfl) (by simp only [go_sem] <;> rfl) (by simp only [go_sem] <;> rfl) (hCo)
     apply Tr.done
     ·simp only [go_sem] <;> rfl
     ·simp
    refine EvC.seq (EvC.rg (by simp only [go_sem] <;> rfl) (by simp) ?_)
    refine EvC.cond_false (by simp only [go_sem] <;> rfl) ?_
    refine EvC.skip ?_
    exact ⟨rfl, (), trivial, fun c Q h => EvC.frzB 2 (by simp only [go_sem] <;> rfl) (EvC.gcE [2, 3, 5] [] 0 rfl (by simp only [go_sem] <;> rfl) h)⟩
  | true =>
    rw [if_pos rfl] at hfit
    subst hfit
    apply EvC.seq
    apply EvC.tr
    ·apply Tr.run
     ·simp only [go_sem] <;> rfl
     ·simp
     apply Tr.cons
     ·exact .call rfl rfl (by simp only [go_sem] <;> rfl) (by simp only [go_sem] <;> rfl) (by simp only [go_sem] <;> rfl) (by simp only [go_sem] <;> rfl) (by simp only [go_sem] <;> rfl) (hCo)
     apply Tr.done
     ·simp only [go_sem] <;> rfl
     ·simp
    refine EvC.seq (EvC.rg (by simp only [go_sem] <;> rfl) (by simp) ?_)
    refine EvC.cond_true (by simp only [go_sem] <;> rfl) ?_
    apply EvC.tr
    ·apply Tr.run
     ·simp only [go_sem] <;> rfl
     ·simp
     apply Tr.cons
     ·exact .call rfl rfl (by simp only [go_sem] <;> rfl) (by simp only [go_sem] <;> rfl) (by simp only [go_sem] <;> rfl) (by simp only [go_sem] <;> rfl) (by simp only [go_sem] <;> rfl) (hR)
     apply Tr.done
     ·simp only [go_sem] <;> rfl
     ·simp
    exact ⟨rfl, (), trivial, fun c Q h => EvC.frzB 2 (by simp only [go_sem] <;> rfl) (EvC.gcE [2, 3, 5] [] 0 rfl (by simp only [go_sem] <;> rfl) h)⟩
 intro _ _
 apply EvC.seq
 apply EvC.tr
 ·apply Tr.run
  ·simp only [go_sem] <;> rfl
  ·simp
  apply Tr.cons
  ·exact .call rfl rfl (by simp only [go_sem] <;> rfl) (by simp only [go_sem] <;> rfl) (by simp only [go_sem] <;> rfl) (by simp only [go_sem] <;> rfl) (by simp only [go_sem] <;> rfl) (hT)
  apply Tr.done
  ·simp only [go_sem] <;> rfl
  ·simp
 refine EvC.frzB 2 (by simp only [go_sem] <;> rfl) ?_
 refine EvC.gc [2, 3, 5, 8] [] 0 rfl ?_
 apply EvC.seq
 apply EvC.drw mixed
 ·apply Tr.run
  ·simp only [go_sem] <;> rfl
  ·simp
  apply Tr.cons
  ·exact .call rfl rfl (by simp only [go_sem] <;> rfl) (by simp only [go_sem] <;> rfl) (by simp only [go_sem] <;> rfl) (by simp only [go_sem] <;> rfl) (by simp only [go_sem] <;> rfl) (hM)
  apply Tr.run
  ·simp only [go_sem] <;> rfl
  ·simp
  apply Tr.cons
  ·exact .call rfl rfl (by simp only [go_sem] <;> rfl) (by simp only [go_sem] <;> rfl) (by simp only [go_sem] <;> rfl) (by simp only [go_sem] <;> rfl) (by simp only [go_sem] <;> rfl) (f1)
  apply Tr.done
  ·simp only [go_sem] <;> rfl
  ·simp
 ·kernel_rfl
 apply EvC.seq
 apply EvC.drw mixed
 ·apply Tr.run
  ·simp only [go_sem] <;> rfl
  ·simp
  apply Tr.cons
  ·exact .call rfl rfl (by simp only [go_sem] <;> rfl) (by simp only [go_sem] <;> rfl) (by simp only [go_sem] <;> rfl) (by simp only [go_sem] <;> rfl) (by simp only [go_sem] <;> rfl) (hM)
  apply Tr.run
  ·simp only [go_sem] <;> rfl
  ·simp
  apply Tr.cons
  ·exact .call rfl rfl (by simp only [go_sem] <;> rfl) (by simp only [go_sem] <;> rfl) (by simp only [go_sem] <;> rfl) (by simp only [go_sem] <;> rfl) (by simp only [go_sem] <;> rfl) (a1)
  apply Tr.done
  ·simp only [go_sem] <;> rfl
  ·simp
 ·kernel_rfl
 refine EvC.gcE [2, 3, 5, 8, 9, 10, 12] [] 0 rfl (by simp only [go_sem] <;> rfl) ?_
 refine EvC.mergeC (α := Unit) (fun _ => ⟨[(3, .ia [.sc (.int .u8 y.st), .sc (.int .u8 y.ins), .sc (.int .u8 y.outs), .sc (.bool y.part), .sl y.nl (y.es.map u16C) y.cap]), (5, .ia [.sc (.int .i64 gm.ins), .sc (.int .i64 gm.outs), .sl Lf.isEmpty (Lf.map traceC) .unk]), (8, .ia t.cells)], [], [], 0⟩) (fun _ => True) ?_ ?_
 ·cases A13 with
  | false =>
    apply EvC.seq
    apply EvC.drw mixed
    ·apply Tr.run
     ·simp only [go_sem] <;> rfl
     ·simp
     apply Tr.cons
     ·exact .callG rfl rfl (by simp only [go_sem] <;> rfl) rfl (by simp only [go_sem] <;> rfl) (by simp only [go_sem] <;> rfl) (by simp only [go_sem] <;> rfl) (by simp only [go_sem] <;> rfl) (by simp only [go_sem] <;> rfl) (hM)
     apply Tr.run
     ·simp only [go_sem] <;> rfl
     ·simp
     apply Tr.cons
     ·exact .callG rfl rfl (by simp only [go_sem] <;> rfl) rfl (by simp only [go_sem] <;> rfl) (by simp only [go_sem] <;> rfl) (by simp only [go_sem] <;> rfl) (by simp only [go_sem] <;> rfl) (by simp only [go_sem] <;> rfl) (f2)
     apply Tr.done
     ·simp only [go_sem] <;> rfl
     ·simp
    ·kernel_rfl
    refine EvC.cond_false (by simp only [go_sem] <;> rfl) ?_
    refine EvC.skip ?_
    exact ⟨rfl, (), trivial, fun c Q h => EvC.gcE [3, 5, 8] [] 0 rfl (by simp only [go_sem, Mach.cells] <;> rfl) h⟩
  | true =>
    apply EvC.seq
    apply EvC.drw mixed
    ·apply Tr.run
     ·simp only [go_sem] <;> rfl
     ·simp
     apply Tr.cons
     ·exact .callG rfl rfl (by simp only [go_sem] <;> rfl) rfl (by simp only [go_sem] <;> rfl) (by simp only [go_sem] <;> rfl) (by simp only [go_sem] <;> rfl) (by simp only [go_sem] <;> rfl) (by simp only [go_sem] <;> rfl) (hM)
     apply Tr.run
     ·simp only [go_sem] <;> rfl
     ·simp
     apply Tr.cons
     ·exact .callG rfl rfl (by simp only [go_sem] <;> rfl) rfl (by simp only [go_sem] <;> rfl) (by simp only [go_sem] <;> rfl) (by simp only [go_sem] <;> rfl) (by simp only [go_sem] <;> rfl) (by simp only [go_sem] <;> rfl) (f2)
     apply Tr.done
     ·simp only [go_sem] <;> rfl
     ·simp
    ·kernel_rfl
    refine EvC.cond_false (by simp only [go_sem] <;> rfl) ?_
    refine EvC.skip ?_
    exact ⟨rfl, (), trivial, fun c Q h => EvC.gcE [3, 5, 8] [] 0 rfl (by simp only [go_sem, Mach.cells] <;> rfl) h⟩
 intro _ _
 apply EvC.seq
 apply EvC.tr
 ·apply Tr.run
  ·simp only [go_sem] <;> rfl
  ·simp
  apply Tr.cons
  ·exact .call rfl rfl (by simp only [go_sem] <;> rfl) (by simp only [go_sem] <;> rfl) (by simp only [go_sem] <;> rfl) (by simp only [go_sem] <;> rfl) (by simp only [go_sem] <;> rfl) (hY)
  apply Tr.done
  ·simp only [go_sem] <;> rfl
  ·simp
 refine EvC.frzB 2 (by simp only [go_sem] <;> rfl) ?_
 refine EvC.gc [5, 8, 13] [] 0 rfl ?_
 by_cases hi : ym.ins = gm.ins
 rotate_left
 ·rw [if_pos hi] at f3
  apply EvC.seq
  apply EvC.tr
  ·apply Tr.run
   ·simp only [go_sem, Mach.cells] <;> rfl
   ·simp
   apply Tr.cons
   ·exact .call rfl rfl (by simp only [go_sem] <;> rfl) (by simp only [go_sem] <;> rfl) (by simp only [go_sem] <;> rfl) (by simp only [go_sem] <;> rfl) (by simp only [go_sem] <;> rfl) (f3)
   apply Tr.done
   ·simp only [go_sem] <;> rfl
   ·simp
  refine EvC.seq ?_
  refine EvC.seq (EvC.rg (by simp only [go_sem] <;> rfl) (by simp) ?_)
  refine EvC.cond_true (by simp only [go_sem, decide_eq_false hi] <;> rfl) ?_
  apply EvC.seq
  apply EvC.tr
  ·apply Tr.run
   ·simp only [go_sem] <;> rfl
   ·simp
   apply Tr.cons
   ·exact .callG rfl rfl (by simp only [go_sem] <;> rfl) rfl (by simp only [go_sem] <;> rfl) (by simp only [go_sem] <;> rfl) (by simp only [go_sem] <;> rfl) (by simp only [go_sem] <;> rfl) (by simp only [go_sem] <;> rfl) (hL)
   apply Tr.done
   ·simp only [go_sem] <;> rfl
   ·simp
  refine EvC.ret ⟨.inl rfl, _, (by simp only [go_sem] <;> rfl), ?_, rfl⟩
  simp only [go_sem]
 have a2 := a2 hi
 rw [e2 hi] at f3
 generalize agst ym Lf 0 = A2 at a2 f3
 obtain ⟨A21, A22, A23⟩ := A2
 simp only at a2 f3
 rw [if_neg (fun h => h hi)] at f3
 rw [Mach.cells] at a2
 cases A23 with
 | false =>
   apply EvC.seq
   apply EvC.tr
   ·apply Tr.run
    ·simp only [go_sem, Mach.cells] <;> rfl
    ·simp
    apply Tr.cons
    ·exact .call rfl rfl (by simp only [go_sem] <;> rfl) (by simp only [go_sem] <;> rfl) (by simp only [go_sem] <;> rfl) (by simp only [go_sem] <;> rfl) (by simp only [go_sem] <;> rfl) (f3)
    apply Tr.done
    ·simp only [go_sem] <;> rfl
    ·simp
   refine EvC.seq ?_
   refine EvC.seq (EvC.rg (by simp only [go_sem] <;> rfl) (by simp) ?_)
   refine EvC.cond_false (by simp only [go_sem, decide_eq_true hi] <;> rfl) ?_
   refine EvC.skip ?_
   apply EvC.seq
   apply EvC.tr
   ·apply Tr.run
    ·simp only [go_sem] <;> rfl
    ·simp
    apply Tr.cons
    ·exact .call rfl rfl (by simp only [go_sem] <;> rfl) (by simp only [go_sem] <;> rfl) (by simp only [go_sem] <;> rfl) (by simp only [go_sem] <;> rfl) (by simp only [go_sem] <;> rfl) (a2)
    apply Tr.done
    ·simp only [go_sem] <;> rfl
    ·simp
   apply EvC.seq
   apply EvC.tr
   ·apply Tr.run
    ·simp only [go_sem] <;> rfl
    ·simp
    apply Tr.cons
    ·exact .callG rfl rfl (by simp only [go_sem] <;> rfl) rfl (by simp only [go_sem] <;> rfl) (by simp only [go_sem] <;> rfl) (by simp only [go_sem] <;> rfl) (by simp only [go_sem] <;> rfl) (by simp only [go_sem] <;> rfl) (hL)
    apply Tr.done
    ·simp only [go_sem] <;> rfl
    ·simp
   refine EvC.ret ⟨.inl rfl, _, (by simp only [go_sem] <;> rfl), ?_, rfl⟩
   simp only [go_sem]
   rfl
 | true =>
   apply EvC.seq
   apply EvC.tr
   ·apply Tr.run
    ·simp only [go_sem, Mach.cells] <;> rfl
    ·simp
    apply Tr.cons
    ·exact .call rfl rfl (by simp only [go_sem] <;> rfl) (by simp only [go_sem] <;> rfl) (by simp only [go_sem] <;> rfl) (by simp only [go_sem] <;> rfl) (by simp only [go_sem] <;> rfl) (f3)
    apply Tr.done
    ·simp only [go_sem] <;> rfl
    ·simp
   refine EvC.seq ?_
   refine EvC.seq (EvC.rg (by simp only [go_sem] <;> rfl) (by simp) ?_)
   refine EvC.cond_false (by simp only [go_sem, decide_eq_true hi] <;> rfl) ?_
   refine EvC.skip ?_
   apply EvC.seq
   apply EvC.tr
   ·apply Tr.run
    ·simp only [go_sem] <;> rfl
    ·simp
    apply Tr.cons
    ·exact .call rfl rfl (by simp only [go_sem] <;> rfl) (by simp only [go_sem] <;> rfl) (by simp only [go_sem] <;> rfl) (by simp only [go_sem] <;> rfl) (by simp only [go_sem] <;> rfl) (a2)
    apply Tr.done
    ·simp only [go_sem] <;> rfl
    ·simp
   apply EvC.seq
   apply EvC.tr
   ·apply Tr.run
    ·simp only [go_sem] <;> rfl
    ·simp
    apply Tr.cons
    ·exact .callG rfl rfl (by simp only [go_sem] <;> rfl) rfl (by simp only [go_sem] <;> rfl) (by simp only [go_sem] <;> rfl) (by simp only [go_sem] <;> rfl) (by simp only [go_sem] <;> rfl) (by simp only [go_sem] <;> rfl) (hL)
    apply Tr.done
    ·simp only [go_sem] <;> rfl
    ·simp
   refine EvC.ret ⟨.inl rfl, _, (by simp only [go_sem] <;> rfl), ?_, rfl⟩
   simp only [go_sem]
   rfl
end Go.Avl
namespace Go.Proofs.Ytkfpnkpomjmpeaa
open Go Go.Avl Go.Proofs Go.ChangeShapes Go.RowKit
set_option maxRecDepth 100000 in
theorem mergesFits_lifted (os : Os) (started : os.Started) (H : Type) (enc : TypeId × Value → H) :
  ReturnsInHanded {} Try.checked os 6 .any (Rows.mergesFitsSpec.pre6 enc Try.prog Try.f6 Rows.mergesFitsRow.domain false) (Rows.mergesFitsSpec.post enc Try.prog Try.f6 false true false false) := by
 refine returnsInHanded_of_change_sized (C := Try.checked) Try.own started (by kernel_rfl) Try.func6
  (ChangeSpec.witness6 (enc := enc) (C := Try.checked) false ⟨#[], #[.agg #[.int .u8 0, .int .u8 0, .int .u8 0, .bool false, .slice none 0 0, .slice none 0 0, .int .u8 0, .int .u8 0, .int .u8 0], .agg #[.int .u8 0, .int .u8 0, .int .u8 0, .bool false, .slice none 0 0]], []⟩ 8 (by kernel_rfl) (by kernel_rfl) (by kernel_rfl) (by kernel_rfl)) ?_
 intro W base args ds gs before hval hW _ hz _
 have hW' := hW
 obtain ⟨p, q, hA, hV, rfl, _, _⟩ := hW'
 obtain ⟨rfl, rfl⟩ := trodVars_none hV
 have hA' : DataW.TrodAll enc Try.prog W 0 (fun _ => true) true [27, 24] args.toList ds p := by rw [← show Try.f6.params.toList = [27, 24] from rfl]; exact hA
 obtain ⟨v0, v1, d0, d1, p0, p1, rfl, rfl, rfl, h0, h1⟩ := trodAll_two hA'
 have hz' : (DataW.weightsEach Try.prog [27, 24] [d0, d1]).all (· ≤ reachBytes) = true := hz
 have hf := fits_each (P := Try.prog) (ts := [27, 24]) (l := [d0, d1]) fun n hn => by simpa using List.all_eq_true.1 hz' n hn
 obtain ⟨x, hx, i0⟩ := rd_LG.imm_struct Try.underlying27 (hval 0 27 v0 rfl rfl) (hf 0 27 d0 rfl rfl) h0
 obtain ⟨y, hy, i1⟩ := rd_LM.imm_struct Try.underlying24 (hval 1 24 v1 rfl rfl) (hf 1 24 d1 rfl rfl) h1
 exact law_calls Try.laidOut (by kernel_rfl) rfl (by kernel_rfl) rfl rfl (mergesFits_is hx hy) (Imms.append (.one i0) (.one i1)) hW
theorem mergesFits_holds : Rows.MergesFitsSaid :=
 OpenClaim.holds_of_wide 6 Try.f6 rfl rfl rfl rfl rfl rfl rfl ⟨rfl, rfl, rfl, rfl, rfl⟩ rfl rfl rfl rfl rfl (by kernel_rfl) Try.func6 (by kernel_rfl)
  (of_decide_eq_true (by kernel_rfl)) (by unfold Func.isWrapper; first | (rw [if_pos (by decide +kernel)]; kernel_rfl) | (rw [if_neg (by decide +kernel)]; exact ⟨rfl, rfl⟩))
  (fun os started H enc _ => mergesFits_lifted os started H enc)
#print axioms mergesFits_holds
end Go.Proofs.Ytkfpnkpomjmpeaa
