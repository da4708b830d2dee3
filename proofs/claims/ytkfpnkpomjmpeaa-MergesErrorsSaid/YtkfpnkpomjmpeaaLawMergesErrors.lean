/-
  Lemmas.
  A call that freezes an object lent to it: its result may be that object.
  Lemmas.
  Lemmas.
  Lemmas.
  Lemmas.
  Lemmas.
  Lemmas.
  Lemmas.
  Lemmas.
  Lemmas.
  Lemmas.
  Lemmas.
  How trees, machines and pairs of numbers read.
  MergesErrors returns true at every input, and each argument reads behind the call as it read before.
-/
import Derived.Test.YtkfpnkpomjmpeaaPart9
set_option linter.unusedSimpArgs false
set_option linter.unusedVariables false
set_option linter.unnecessarySimpa false
set_option linter.deprecated false
namespace Go.Avl
open Go Go.Proofs.Try
set_option maxRecDepth 10000
set_option linter.unusedSimpArgs false
theorem TV.short {t : Mach} (v : TV t) : ∀ r ∈ t.rows, r.2.length < 1000000 := fun r hr => by
 obtain ⟨i, hi, rfl⟩ := List.mem_iff_getElem.1 hr
 have := (v.row i _ (List.getElem?_eq_getElem hi)).1
 have := v.ins
 omega
end Go.Avl
namespace Go.Avl
open Go
section
variable {P : Program} {fr : Fr} {ro : Option Nat} {ds : DS} {st st' : St} {G G' : Nat → Option Value} {F F' : Nat → Nat → Prop} {a : Act} {w w' : World} {c : Code}
 {M : Mem} {ops : Array Oper} {l rest : List Oper} {o : Oper} {id N : Nat} {rd : List Nat}
theorem OpIs.callFz {f : FuncId} {callee : Operand} {args : Array Operand} {tys : Array TypeId} {i esz : Nat} {es : List (List AV)} {fz : Bool} {xs : List AV} {r : AV} (hg : o.guard = none) (hop : o.op = .call ⟨.value callee, args, tys⟩) (hd : dok fr o.dst = true)
  (hcal : od fr st true callee = .fn f []) (ho : mlook st.mem i = some (.arr esz es fz)) (hes : es.all AV.norefs = true)
  (hxs : (args.toList.map fun x => AV.deep (snap [(i, .arr esz es true)]) (od fr st true x)) = xs) (hn : AV.norefs xs = true) (hrn : r.noref = true)
  (hrd : opSlots o.op.operands.toList ++ [2 * i + 1] = rd) (hc : PureIs P f xs r) : OpIs P fr ro ds ops id st ⟨o, ⟨r, some (i, .arr esz es true)⟩, rd⟩ := by
 intro st' G F a w N K Q1 s hN hG hlk h
 simp only [Region.wanted, hg, if_true]
 have hslot : ∀ x ∈ o.op.operands.toList, opnd fr st' x = opnd fr st x := fun x hx => by
  cases x with
  | tmp t => exact look_slot (hlk _ (by simp only; rw [← hrd]; exact List.mem_append_left _ (opSlots_mem hx)))
  | _ => rfl
 rw [hop] at hslot
 have hod : ∀ z, z = callee ∨ z ∈ args.toList → od fr st' true z = od fr st true z := fun z hz => by
  unfold od; rw [hslot z (by simp only [Op.operands, Call.operands]; simpa using hz)]
 have ho' : mlook st'.mem i = some (.arr esz es fz) := by rw [← ho]; exact look_obj (hlk _ (by simp only; rw [← hrd]; simp))
 refine ⟨fun _ _ => trivial, ?_⟩
 rw [Oper.semAt_eq _ _ _ (by rw [hop]; intro c h; cases h)]
 have hv := (s.eval callee).unopt
 have hv : RV G F st'.mem w (a.eval callee) (.fn f []) := by have := hod callee (.inl rfl); unfold od at this hcal; rwa [this, hcal] at hv
 obtain ⟨vs, hev, hll, _⟩ := hv.inv_fn
 have hvs : vs = [] := by cases vs with
  | nil => rfl
  | cons a l => simp at hll
 subst hvs
 obtain ⟨F1, hm1, S1⟩ := simM_frz s.mem ho' hes
 have hrun : (execOp a.eval o).run P w = .ok (.enter f ((args.toList.map a.eval).toArray)) w := by
  obtain ⟨dst, op, ty, pos, after, guard⟩ := o
  simp only at hop
  subst hop
  simp only [execOp, resolve, hev, Deferred.ofValue, Sem.run_bind, Sem.run_pure, Result.andThen_ok, invoke]
  rw [hc.1]
  congr 2
  apply Array.ext'
  simp
 rw [hrun]
 have hlk1 : mlook (mset st'.mem i (.arr esz es true)) i = some (.arr esz es true) := by rw [mlook_mset, if_pos rfl]
 have hi : Imms F1 w (args.toList.map a.eval) xs := by
  have hall : ∀ x ∈ xs, x.noref = true := by
   clear hxs hc
   induction xs with
   | nil => intro x hx; cases hx
   | cons y ys ih =>
     simp only [AV.norefs, Bool.and_eq_true] at hn
     intro x hx
     rcases List.mem_cons.1 hx with rfl | hx
     ·exact hn.1
     ·exact ih hn.2 x hx
  subst hxs
  refine ⟨by simp, fun j h1 h2 => ?_⟩
  have hj : j < args.toList.length := by simpa using h1
  have hr : RV G F1 (mset st'.mem i (.arr esz es true)) w (a.eval args.toList[j]) (AV.deep (snap [(i, .arr esz es true)]) (od fr st true args.toList[j])) := by
   have h0 := (s.eval args.toList[j]).unopt
   have he := hod args.toList[j] (.inr (List.getElem_mem hj))
   unfold od at he ⊢
   rw [he] at h0
   exact (h0.step S1 fun _ _ => trivial).deep fun v y h => snap_one (fz := true) hlk1 (fun v y h => h.snap hm1) h
  simp only [List.getElem_map]
  exact hr.imm_of (hall _ (by exact List.mem_map.2 ⟨_, List.getElem_mem hj, rfl⟩))
 refine ⟨fun h => by simp [fc, Fence.wide] at h, callsIn_fc ((hc.2 F1 w _ hm1.fok hi).mono ?_)⟩
 rintro e w' ⟨v, F', rfl, hv, g⟩
 obtain ⟨hm', S'⟩ := simM_grown hm1 g
 obtain ⟨s1, S2⟩ := s.put (d := o.dst) (r := ⟨r, some (i, .arr esz es true)⟩) (u := v) hm' (fun _ => rfl) (S1.trans S') hd (.imm hv)
 exact h G _ _ w' s1 S2 (fun _ _ h => h)
end
end Go.Avl
namespace Go.Avl
open Go Go.Proofs.Try
set_option maxRecDepth 10000
set_option linter.unusedSimpArgs false
structure TG (t : Mach) : Prop where
 ins : 1 ≤ t.ins ∧ t.ins ≤ 16
 rows : 1 ≤ t.rows.length ∧ t.rows.length ≤ 65537
 row : ∀ (i : Nat) (r : Row), t.rows[i]? = some r → (r.2.length : Int) = t.ins ∧ ∀ e ∈ r.2, e.1 = -1 ∨ (1 ≤ e.1 ∧ e.1 < t.rows.length)
theorem TV.tg {t : Mach} (v : TV t) : TG t := ⟨v.ins, v.rows, fun i r h => ⟨(v.row i r h).1, fun e he => by
 rcases (v.row i r h).2 e he with h1 | h1
 ·exact .inl h1.1
 ·exact .inr ⟨by omega, h1.2.1⟩⟩⟩
theorem TG.get {t : Mach} (v : TG t) {n i : Nat} (hn : n < t.rows.length) (hi : (i : Int) < t.ins) : ∃ A : Row, t.rows[n]? = some A ∧ (A.2.length : Int) = t.ins ∧ A.2[i]? = some (eT t n i) ∧ ((eT t n i).1 = -1 ∨ (1 ≤ (eT t n i).1 ∧ (eT t n i).1 < t.rows.length)) := by
 have hg : t.rows[n]? = some (t.rows[n]) := List.getElem?_eq_getElem hn
 have hl := v.row n _ hg
 have he : (t.rows[n]).2[i]? = some (eT t n i) := by
  rw [eT, hg]
  simp only [Option.map_some, Option.getD_some]
  rw [List.getElem?_eq_getElem (by omega)]; rfl
 exact ⟨t.rows[n], hg, hl.1, he, hl.2 _ (List.mem_of_getElem? he)⟩
structure WS where
 seen : List Bool
 out : List (List Nat)
 many : Nat
def WS.has (s : WS) (n : Nat) : Bool := (s.seen[n]?).getD false
def WS.wd (s : WS) (n : Nat) : List Nat := (s.out[n]?).getD []
def WS.put (s : WS) (to n i : Nat) : WS := ⟨s.seen.set to true, s.out.set to (s.wd n ++ [i]), s.many + 1⟩
def wE (t : Mach) (r n : Nat) : Nat → Nat → WS → Option WS
 | 0, _, s => some s
 | d + 1, i, s => if s.has n = true ∧ (s.wd n).length = r then
     if (eT t n i).1 = -1 then wE t r n d (i + 1) s
     else if s.has (eT t n i).1.toNat = true then none
     else wE t r n d (i + 1) (s.put (eT t n i).1.toNat n i)
   else some s
def wN (t : Mach) (r : Nat) : Nat → Nat → WS → Option WS
 | 0, _, s => some s
 | d + 1, n, s => match wE t r n t.ins.toNat 0 s with
   | none => none
   | some s' => wN t r d (n + 1) s'
def wR (t : Mach) : Nat → Nat → WS → Option WS
 | 0, _, s => some s
 | d + 1, r, s => match wN t r t.rows.length 0 s with
   | none => none
   | some s' => if s'.many = s.many then some s' else wR t d (r + 1) s'
def ws0 (N : Nat) : WS := ⟨(List.replicate N false).set 0 true, List.replicate N [], 1⟩
def wordsR (t : Mach) : Option (List (List Nat)) := match wR t t.rows.length 0 (ws0 t.rows.length) with
 | none => none
 | some s => if s.many < t.rows.length then none else some s.out
structure WS.Ok (s : WS) (N : Nat) : Prop where
 seen : s.seen.length = N
 out : s.out.length = N
 many : s.many = s.seen.countP (fun b => b)
 le : ∀ w ∈ s.out, w.length ≤ N
theorem WS.Ok.le_many {s : WS} {N : Nat} (h : s.Ok N) : s.many ≤ N := by
 rw [h.many, ← h.seen]; exact List.countP_le_length
theorem WS.Ok.has_get {s : WS} {N n : Nat} (h : s.Ok N) (hn : n < N) : s.seen[n]? = some (s.has n) := by
 unfold WS.has
 rw [List.getElem?_eq_getElem (by rw [h.seen]; exact hn)]; rfl
theorem WS.Ok.wd_get {s : WS} {N n : Nat} (h : s.Ok N) (hn : n < N) : s.out[n]? = some (s.wd n) := by
 unfold WS.wd
 rw [List.getElem?_eq_getElem (by rw [h.out]; exact hn)]; rfl
theorem WS.Ok.wd_le {s : WS} {N n : Nat} (h : s.Ok N) : (s.wd n).length ≤ N := by
 unfold WS.wd
 cases hk : s.out[n]? with
 | none => simp
 | some w => exact h.le w (List.mem_of_getElem? hk)
theorem ws0_ok {N : Nat} (h : 1 ≤ N) : (ws0 N).Ok N := by
 refine ⟨by simp [ws0], by simp [ws0], ?_, fun w hw => ?_⟩
 ·obtain ⟨M, rfl⟩ : ∃ M, N = M + 1 := ⟨N - 1, by omega⟩
  unfold ws0
  simp only [List.replicate_succ, List.set_cons_zero, List.countP_cons, List.countP_replicate]
  simp
 ·rw [List.eq_of_mem_replicate hw]; simp
theorem WS.Ok.put {s : WS} {N to n i : Nat} (h : s.Ok N) (ht : to < N) (hs : s.has to = false) (hl : (s.wd n).length < N) : (s.put to n i).Ok N := by
 refine ⟨by simp [WS.put, h.seen], by simp [WS.put, h.out], ?_, fun w hw => ?_⟩
 ·have h1 := h.has_get ht
  rw [hs] at h1
  have h2 : s.seen[to]'(by rw [h.seen]; exact ht) = false := by
   rw [List.getElem?_eq_getElem (by rw [h.seen]; exact ht)] at h1
   exact Option.some.inj h1
  simp only [WS.put]
  rw [List.countP_set (by rw [h.seen]; exact ht), h2, h.many]
  simp
 ·rcases List.mem_or_eq_of_mem_set hw with h1 | h1
  ·exact h.le w h1
  ·rw [h1]; simp; omega
def bC (b : Bool) : List AV := [.sc (.bool b)]
def wCp (w : List Nat) : Cp := if w = [] then .zer else .unk
def wA (w : List Nat) : List AV := [.sl w.isEmpty (w.map natC) (wCp w)]
def wordsA : Option (List (List Nat)) → AV
 | none => .sl true [] .unk
 | some l => .sl false (l.map wA) .full
attribute [go_sem] wordsA
theorem norefs_bC (l : List Bool) : (l.map bC).all AV.norefs = true := by simp [List.all_eq_true, bC, AV.norefs, AV.noref]
theorem norefs_wA (l : List (List Nat)) : (l.map wA).all AV.norefs = true := by
 simp only [List.all_eq_true, List.mem_map]
 rintro _ ⟨w, _, rfl⟩
 rfl
end Go.Avl
namespace Go.Avl
open Go Go.Proofs.Try
set_option maxRecDepth 10000
set_option linter.unusedSimpArgs false
set_option maxHeartbeats 8000000 in
theorem words56_is {t : Mach} (v : TG t) : PureIs prog 56 [.ag t.cells] (wordsA (wordsR t)) := by
 have hrw := v.rows
 have hin := v.ins
 obtain ⟨N, hN⟩ : ∃ N, N = t.rows.length := ⟨_, rfl⟩
 have hNi : ((N : Int)).toNat = N := Int.toNat_natCast N
 have hr0 : room N 8 = true := by simp only [room_eq, decide_eq_true_eq]; omega
 have hr1 : room N 24 = true := by simp only [room_eq, decide_eq_true_eq]; omega
 have hr2 : room N 1 = true := by simp only [room_eq, decide_eq_true_eq]; omega
 have dz := decide_eq_false (show ¬ (N : Int) = 0 by omega)
 have hW : ∀ s, wR t N 0 (ws0 N) = some s → wordsR t = if s.many < N then none else some s.out := fun s h => by unfold wordsR; rw [← hN, h]
 have hW0 : wR t N 0 (ws0 N) = none → wordsR t = none := fun h => by unfold wordsR; rw [← hN, h]
 generalize wordsR t = Wres at hW hW0
 refine PureIs.of (nv := 11) (hid := [14, 18, 22, 29, 37, 58, 71, 75, 95, 100]) func56 rfl (by kernel_rfl) (by simp [ntmps56]) fun _ => ?_
 rw [ntmps56, results56]
 refine EvC.seq (EvC.rg (by simp only [go_sem, Mach.cells] <;> rfl) (by simp) ?_)
 refine EvC.frzB 0 (by simp only [go_sem] <;> rfl) ?_
 refine EvC.seq ?_
 refine EvC.seq (EvC.rg (by simp only [go_sem, List.length_map, hN.symm, dz] <;> rfl) (by simp) ?_)
 refine EvC.cond_false (by simp only [go_sem] <;> rfl) ?_
 refine EvC.skip ?_
 refine EvC.seq (EvC.rg (by simp only [go_sem, List.length_map, hN.symm, hNi] <;> rfl) (by simp; exact hr1) ?_)
 refine EvC.seq (EvC.rg (by simp only [go_sem, List.length_map, hN.symm, hNi] <;> rfl) (by simp; exact hr2) ?_)
 have hrep : (List.replicate N [AV.sc (.bool false)])[0]? = some [.sc (.bool false)] := by rw [List.getElem?_replicate, if_pos (by omega)]
 refine EvC.seq (EvC.rg (by simp only [go_sem, hrep, List.length_replicate] <;> rfl) (by simp; try omega) ?_)
 refine EvC.seq (EvC.rg (by simp only [go_sem] <;> rfl) (by simp) ?_)
 refine EvC.seq ?_
 refine EvC.seq (EvC.rg (by simp only [go_sem] <;> rfl) (by simp) ?_)
 refine EvC.block ?_
 refine EvC.loopS (σ := Nat × WS) (fun g => ⟨[(1, .ia t.cells), (3, .tv 0 N 0 N (.val N)), (4, .tv 1 N 0 N (.val N)), (5, .sc (.int .i64 g.2.many)), (6, .sc (.int .i64 g.1))], [], [(0, .arr 1 (g.2.out.map wA) false), (1, .arr 1 (g.2.seen.map bC) false)], 2⟩) (fun g => N - g.1)
  (fun g => g.1 ≤ N ∧ g.2.Ok N ∧ wR t N 0 (ws0 N) = wR t (N - g.1) g.1 g.2) [1, 3, 4, 5, 6] 2 ?_ ?_
 ·refine ⟨[(9, 0), (14, 1)], (0, ws0 N), rfl, ?_, Nat.zero_le _, ws0_ok (by omega), rfl⟩
  have hw0 : ((ws0 N).out).map wA = List.replicate N [.sl true [] .zer] := by simp only [ws0, List.map_replicate]; rfl
  have hb0 : ((ws0 N).seen).map bC = (List.replicate N [AV.sc (.bool false)]).set 0 [.sc (.bool true)] := by simp only [ws0, List.map_set, List.map_replicate]; rfl
  have hm0 : (ws0 N).many = 1 := rfl
  simp only
  rw [hw0, hb0, hm0]
  have hnz : (List.replicate N [AV.sl true [] .zer]).all AV.norefs = true := by simp [List.all_eq_true, AV.norefs, AV.noref]
  have hnb : ((List.replicate N [AV.sc (.bool false)]).set 0 [.sc (.bool true)]).all AV.norefs = true := by
   rw [← hb0]; exact norefs_bC _
  simp only [go_sem, Mach.cells, hnz, hnb] <;> rfl
 rintro ⟨r, s⟩ ⟨h1, h2, h3⟩
 simp only at h1 h2 h3 ⊢
 have hmany := h2.le_many
 refine EvC.seq ?_
 refine EvC.seq (EvC.rg (by simp only [go_sem, Mach.cells, List.length_map, hN.symm] <;> rfl) (by simp) ?_)
 refine EvC.cond (by simp only [go_sem] <;> rfl) (fun hc => ?_) (fun hc => ?_)
 rotate_left
 ·
  have hc : ¬ r < N := by simpa using hc
  obtain rfl : r = N := by omega
  rw [Nat.sub_self, wR] at h3
  have hW := hW _ h3
  refine EvC.exit ?_
  refine EvC.seq ?_
  refine EvC.seq (EvC.rg (by simp only [go_sem, Mach.cells, List.length_map, hN.symm] <;> rfl) (by simp) ?_)
  by_cases hq : s.many < r
  ·rw [if_pos hq] at hW
   subst hW
   refine EvC.cond_true (by simp only [go_sem, decide_eq_true (show (s.many : Int) < r by omega)] <;> rfl) ?_
   refine EvC.seq (EvC.rg (by simp only [go_sem] <;> rfl) (by simp) ?_)
   refine EvC.ret ⟨.inl rfl, _, (by simp only [go_sem] <;> rfl), ?_, rfl⟩
   simp only [go_sem]
  rw [if_neg hq] at hW
  subst hW
  refine EvC.cond_false (by simp only [go_sem, decide_eq_false (show ¬ (s.many : Int) < r by omega)] <;> rfl) ?_
  refine EvC.skip ?_
  refine EvC.frz 0 (by simp only [go_sem, List.length_map, h2.out, norefs_wA] <;> rfl) ?_
  refine EvC.seq (EvC.rg (by simp only [go_sem] <;> rfl) (by simp) ?_)
  refine EvC.ret ⟨.inl rfl, _, (by simp only [go_sem] <;> rfl), ?_, rfl⟩
  simp only [go_sem]
 have hrN : r < N := by simpa using hc
 clear hc
 have hd : N - r = (N - (r + 1)) + 1 := by omega
 rw [hd, wR] at h3
 refine EvC.skip ?_
 refine EvC.seq ?_
 refine EvC.block ?_
 refine EvC.seq (EvC.rg (by simp only [go_sem] <;> rfl) (by simp) ?_)
 refine EvC.seq ?_
 refine EvC.seq (EvC.rg (by simp only [go_sem] <;> rfl) (by simp) ?_)
 refine EvC.block ?_
 obtain ⟨s0, hs0⟩ : ∃ s0, s0 = s := ⟨_, rfl⟩
 refine EvC.loopS (σ := Nat × WS) (fun g => ⟨[(1, .ia t.cells), (3, .tv 0 N 0 N (.val N)), (4, .tv 1 N 0 N (.val N)), (5, .sc (.int .i64 g.2.many)), (6, .sc (.int .i64 r)), (7, .sc (.int .i64 s0.many)), (8, .sc (.int .i64 g.1))], [], [(0, .arr 1 (g.2.out.map wA) false), (1, .arr 1 (g.2.seen.map bC) false)], 2⟩) (fun g => N - g.1)
  (fun g => g.1 ≤ N ∧ g.2.Ok N ∧ wN t r t.rows.length 0 s0 = wN t r (N - g.1) g.1 g.2) [1, 3, 4, 5, 6, 7, 8] 2 ?_ ?_
 ·refine ⟨[(0, 0), (1, 1)], (0, s), rfl, ?_, Nat.zero_le _, h2, by rw [hs0, hN]; rfl⟩
  subst hs0
  simp only [go_sem, norefs_bC, norefs_wA] <;> rfl
 rw [← hs0] at h3
 clear hs0 h2 s hmany
 rintro ⟨n, s⟩ ⟨g1, h2, g3⟩
 simp only at g1 h2 g3 ⊢
 have hmany := h2.le_many
 refine EvC.seq ?_
 refine EvC.seq (EvC.rg (by simp only [go_sem, Mach.cells, List.length_map, hN.symm] <;> rfl) (by simp) ?_)
 refine EvC.cond (by simp only [go_sem] <;> rfl) (fun hc => ?_) (fun hc => ?_)
 rotate_left
 ·
  have hc : ¬ n < N := by simpa using hc
  obtain rfl : n = N := by omega
  rw [Nat.sub_self, wN] at g3
  rw [g3] at h3
  refine EvC.exit ?_
  refine EvC.seq (EvC.rg (by simp only [go_sem] <;> rfl) (by simp) ?_)
  simp only at h3
  by_cases hq : s.many = s0.many
  ·rw [if_pos hq] at h3
   refine EvC.cond_true (by simp only [go_sem, decide_eq_true (show (s.many : Int) = s0.many by omega)] <;> rfl) ?_
   refine EvC.exit ?_
   have hW := hW _ h3
   refine EvC.seq ?_
   refine EvC.seq (EvC.rg (by simp only [go_sem, Mach.cells, List.length_map, hN.symm] <;> rfl) (by simp) ?_)
   by_cases hq : s.many < n
   ·rw [if_pos hq] at hW
    subst hW
    refine EvC.cond_true (by simp only [go_sem, decide_eq_true (show (s.many : Int) < n by omega)] <;> rfl) ?_
    refine EvC.seq (EvC.rg (by simp only [go_sem] <;> rfl) (by simp) ?_)
    refine EvC.ret ⟨.inl rfl, _, (by simp only [go_sem] <;> rfl), ?_, rfl⟩
    simp only [go_sem]
   rw [if_neg hq] at hW
   subst hW
   refine EvC.cond_false (by simp only [go_sem, decide_eq_false (show ¬ (s.many : Int) < n by omega)] <;> rfl) ?_
   refine EvC.skip ?_
   refine EvC.frz 0 (by simp only [go_sem, List.length_map, h2.out, norefs_wA] <;> rfl) ?_
   refine EvC.seq (EvC.rg (by simp only [go_sem] <;> rfl) (by simp) ?_)
   refine EvC.ret ⟨.inl rfl, _, (by simp only [go_sem] <;> rfl), ?_, rfl⟩
   simp only [go_sem]
  rw [if_neg hq] at h3
  refine EvC.cond_false (by simp only [go_sem, decide_eq_false (show ¬ (s.many : Int) = s0.many by omega)] <;> rfl) ?_
  refine EvC.skip ?_
  refine EvC.rg (by simp only [go_sem] <;> rfl) (by exact inI64_of (by omega) (by omega)) ?_
  exact ⟨[(0, 0), (1, 1)], (r + 1, s), rfl, (by simp only [go_sem, Int.natCast_add, Int.natCast_one, norefs_bC, norefs_wA] <;> rfl), ⟨hrN, h2, h3⟩, by simp only; omega⟩
 have hnN : n < N := by simpa using hc
 clear hc
 have hd2 : N - n = (N - (n + 1)) + 1 := by omega
 rw [hd2, wN] at g3
 refine EvC.skip ?_
 refine EvC.seq ?_
 refine EvC.block ?_
 refine EvC.seq (EvC.rg (by simp only [go_sem] <;> rfl) (by simp) ?_)
 refine EvC.block ?_
 obtain ⟨s1, hs1⟩ : ∃ s1, s1 = s := ⟨_, rfl⟩
 refine EvC.loopS (σ := Nat × WS) (fun g => ⟨[(1, .ia t.cells), (3, .tv 0 N 0 N (.val N)), (4, .tv 1 N 0 N (.val N)), (5, .sc (.int .i64 g.2.many)), (6, .sc (.int .i64 r)), (7, .sc (.int .i64 s0.many)), (8, .sc (.int .i64 n)), (9, .sc (.int .i64 g.1))], [], [(0, .arr 1 (g.2.out.map wA) false), (1, .arr 1 (g.2.seen.map bC) false)], 2⟩) (fun g => t.ins.toNat - g.1)
  (fun g => (g.1 : Int) ≤ t.ins ∧ g.2.Ok N ∧ wE t r n t.ins.toNat 0 s1 = wE t r n (t.ins.toNat - g.1) g.1 g.2) [1, 3, 4, 5, 6, 7, 8, 9] 2 ?_ ?_
 ·refine ⟨[(0, 0), (1, 1)], (0, s), rfl, ?_, by simp only; omega, h2, by rw [hs1]; rfl⟩
  simp only [go_sem, norefs_bC, norefs_wA] <;> rfl
 rw [← hs1] at g3
 clear hs1 h2 s hmany
 rintro ⟨i, s⟩ ⟨f1, h2, f3⟩
 simp only at f1 h2 f3 ⊢
 have hmany := h2.le_many
 have hnin : (n : Int).toNat = n := Int.toNat_natCast n
 have hiin : (i : Int).toNat = i := Int.toNat_natCast i
 have hgs : (s.seen.map bC)[n]? = some (bC (s.has n)) := by rw [List.getElem?_map, h2.has_get hnN]; rfl
 have hgo : (s.out.map wA)[n]? = some (wA (s.wd n)) := by rw [List.getElem?_map, h2.wd_get hnN]; rfl
 have hls : (s.seen.map bC).length = N := by rw [List.length_map, h2.seen]
 have hlo : (s.out.map wA).length = N := by rw [List.length_map, h2.out]
 have hwl := h2.wd_le (n := n)
 refine EvC.seq ?_
 apply EvC.seq
 apply EvC.trd
 ·simp only [go_sem, Mach.cells, hgs, hgo, hls, hlo, hnin, bC, wA, List.length_map] <;> rfl
 ·simp; try omega
 by_cases c1 : (i : Int) < t.ins
 rotate_left
 ·have d1 := decide_eq_false c1
  rw [show t.ins.toNat - i = 0 by omega, wE] at f3
  rw [f3] at g3
  refine EvC.cond_false (by simp only [go_sem, d1] <;> rfl) ?_
  refine EvC.exit ?_
  refine EvC.rg (by simp only [go_sem] <;> rfl) (by exact inI64_of (by omega) (by omega)) ?_
  exact ⟨[(0, 0), (1, 1)], (n + 1, s), rfl, (by simp only [go_sem, Int.natCast_add, Int.natCast_one, norefs_bC, norefs_wA] <;> rfl), ⟨hnN, h2, g3⟩, by simp only; omega⟩
 have d1 := decide_eq_true c1
 rw [show t.ins.toNat - i = (t.ins.toNat - (i + 1)) + 1 by omega, wE] at f3
 cases c2 : s.has n with
 | false =>
   rw [c2, if_neg (by simp)] at f3
   rw [f3] at g3
   refine EvC.cond_false (by simp only [go_sem, d1, c2] <;> rfl) ?_
   refine EvC.exit ?_
   refine EvC.rg (by simp only [go_sem] <;> rfl) (by exact inI64_of (by omega) (by omega)) ?_
   exact ⟨[(0, 0), (1, 1)], (n + 1, s), rfl, (by simp only [go_sem, Int.natCast_add, Int.natCast_one, norefs_bC, norefs_wA] <;> rfl), ⟨hnN, h2, g3⟩, by simp only; omega⟩
 | true =>
 rw [c2] at f3
 by_cases c3 : (s.wd n).length = r
 rotate_left
 ·rw [if_neg (fun h => c3 h.2)] at f3
  rw [f3] at g3
  refine EvC.cond_false (by simp only [go_sem, d1, c2, decide_eq_false (show ¬ ((s.wd n).length : Int) = r by omega)] <;> rfl) ?_
  refine EvC.exit ?_
  refine EvC.rg (by simp only [go_sem] <;> rfl) (by exact inI64_of (by omega) (by omega)) ?_
  exact ⟨[(0, 0), (1, 1)], (n + 1, s), rfl, (by simp only [go_sem, Int.natCast_add, Int.natCast_one, norefs_bC, norefs_wA] <;> rfl), ⟨hnN, h2, g3⟩, by simp only; omega⟩
 rw [if_pos ⟨rfl, c3⟩] at f3
 refine EvC.cond_true (by simp only [go_sem, d1, c2, decide_eq_true (show ((s.wd n).length : Int) = r by omega)] <;> rfl) ?_
 refine EvC.skip ?_
 refine EvC.seq ?_
 refine EvC.block ?_
 obtain ⟨A, hA, hAl, hAi, hto⟩ := v.get (n := n) (i := i) (by omega) c1
 have hwE := f3
 generalize hx : eT t n i = x at hAi hto f3
 obtain ⟨e1, e2⟩ := x
 simp only at hto f3
 refine EvC.seq (EvC.rg (by simp only [go_sem, Mach.cells, hA, hAi, hnin, hiin, rowC, edgeC, List.length_map] <;> rfl) (by simp; try omega) ?_)
 refine EvC.seq ?_
 refine EvC.seq (EvC.rg (by simp only [go_sem] <;> rfl) (by simp) ?_)
 by_cases c4 : e1 = -1
 ·rw [if_pos c4] at f3
  refine EvC.cond_true (by simp only [go_sem, decide_eq_true c4] <;> rfl) ?_
  refine EvC.exit ?_
  refine EvC.rg (by simp only [go_sem] <;> rfl) (by exact inI64_of (by omega) (by omega)) ?_
  exact ⟨[(0, 0), (1, 1)], (i + 1, s), rfl, (by simp only [go_sem, Mach.cells, Int.natCast_add, Int.natCast_one, norefs_bC, norefs_wA] <;> rfl), ⟨by simp only; omega, h2, f3⟩, by simp only; omega⟩
 rw [if_neg c4] at f3
 refine EvC.cond_false (by simp only [go_sem, decide_eq_false c4] <;> rfl) ?_
 refine EvC.skip ?_
 obtain ⟨k, rfl⟩ : ∃ k : Nat, e1 = (k : Int) := ⟨e1.toNat, by omega⟩
 have hkN : k < N := by omega
 have hkin : (k : Int).toNat = k := Int.toNat_natCast k
 rw [hkin] at f3
 have hgk : (s.seen.map bC)[k]? = some (bC (s.has k)) := by rw [List.getElem?_map, h2.has_get hkN]; rfl
 have hgk2 : (s.out.map wA)[k]? = some (wA (s.wd k)) := by rw [List.getElem?_map, h2.wd_get hkN]; rfl
 refine EvC.seq ?_
 refine EvC.seq (EvC.rg (by simp only [go_sem, hgk, hls, hkin, bC] <;> rfl) (by simp; try omega) ?_)
 cases c5 : s.has k with
 | true =>
   rw [c5, if_pos rfl] at f3
   rw [f3] at g3
   simp only at g3
   rw [g3] at h3
   simp only at h3
   have hW0 := hW0 h3
   subst hW0
   refine EvC.cond_true (by simp only [go_sem, c5] <;> rfl) ?_
   refine EvC.seq (EvC.rg (by simp only [go_sem] <;> rfl) (by simp) ?_)
   refine EvC.ret ⟨.inl rfl, _, (by simp only [go_sem] <;> rfl), ?_, rfl⟩
   simp only [go_sem]
 | false =>
 rw [c5, if_neg (by simp)] at f3
 refine EvC.cond_false (by simp only [go_sem, c5] <;> rfl) ?_
 refine EvC.skip ?_
 refine EvC.seq (EvC.rg (by simp only [go_sem, hgk, hls, hkin, bC] <;> rfl) (by simp; try omega) ?_)
 have hput := h2.put (n := n) (i := i) hkN c5 (by omega)
 have hpm : (((s.put k n i).many : Nat) : Int) = (s.many : Int) + 1 := rfl
 have hset : ∀ x, ((s.out.map wA).set k x)[k]? = some x := fun x => by rw [List.getElem?_set, if_pos rfl, if_pos (by omega)]
 have hps : (s.seen.map bC).set k [.sc (.bool true)] = (s.put k n i).seen.map bC := by simp only [WS.put, List.map_set]; rfl
 have hpo : (s.out.map wA).set k [.sl false ((s.wd n ++ [i]).map natC) .unk] = (s.put k n i).out.map wA := by
  simp only [WS.put, List.map_set, wA, wCp]
  rw [if_neg (by simp)]
  have : (s.wd n ++ [i]).isEmpty = false := by simp
  rw [this]
 by_cases hx0 : s.wd n = []
 ·have hgo2 : (s.out.map wA)[n]? = some [.sl true [] .zer] := by rw [hgo, hx0]; rfl
  apply EvC.seq
  apply EvC.tr
  ·apply Tr.cons
   ·exact .op rfl (by simp only [go_sem] <;> rfl) (by simp only [go_sem] <;> rfl) rfl (by simp only [go_sem] <;> rfl)
   apply Tr.cons
   ·exact .op rfl (by simp only [go_sem] <;> rfl) (by simp only [go_sem] <;> rfl) rfl (by simp only [go_sem] <;> rfl)
   apply Tr.cons
   ·exact .op rfl (by simp only [go_sem] <;> rfl) (by simp only [go_sem] <;> rfl) rfl (by simp only [go_sem] <;> rfl)
   apply Tr.cons
   ·exact .op rfl (by simp only [go_sem] <;> rfl) (by simp only [go_sem] <;> rfl) rfl (by simp only [go_sem] <;> rfl)
   apply Tr.cons
   ·exact .op rfl (by simp only [go_sem] <;> rfl) (by simp only [go_sem] <;> rfl) rfl (by simp only [go_sem] <;> rfl)
   apply Tr.cons
   ·exact .op rfl (by simp only [go_sem] <;> rfl) (by simp only [go_sem, hnin, hgo2, hlo] <;> rfl) (by simp; try omega) (by simp only [go_sem] <;> rfl)
   apply Tr.cons
   ·exact .op rfl (by simp only [go_sem] <;> rfl) (by simp only [go_sem, hnin, hgo2, hlo] <;> rfl) (by simp; try omega) (by simp only [go_sem] <;> rfl)
   apply Tr.cons
   ·exact .appZ rfl rfl (by simp only [go_sem] <;> rfl) (by simp only [go_sem] <;> rfl) (by simp only [go_sem] <;> rfl) (by simp only [go_sem] <;> rfl) (by simp only [go_sem] <;> rfl) (by simp only [go_sem] <;> rfl) (by simp only [go_sem] <;> rfl)
   apply Tr.done
   ·simp only [go_sem, hkin, hgk2, hlo, wA] <;> rfl
   ·simp [room_eq]; exact hkN
  refine EvC.frz 51 (by simp only [go_sem] <;> rfl) ?_
  refine EvC.snapE 0 k (by simp only [go_sem, hset] <;> rfl) ?_
  have hr5 : room 1 8 = true := by simp [room_eq]
  rw [hx0, List.nil_append] at hpo
  have hpo2 : ((s.out.map wA).set k [.sl false [[.sc (.int .i64 i)]] .unk]) = (s.put k n i).out.map wA := hpo
  refine EvC.rg (by simp only [go_sem] <;> rfl) (by exact inI64_of (by omega) (by omega)) ?_
  refine EvC.rg (by simp only [go_sem] <;> rfl) (by exact inI64_of (by omega) (by omega)) ?_
  refine ⟨[(0, 0), (1, 1)], (i + 1, s.put k n i), rfl, ?_, ⟨by simp only; omega, hput, f3⟩, by simp only; omega⟩
  have hno := norefs_wA (s.put k n i).out
  have hnb := norefs_bC (s.put k n i).seen
  rw [← hpo2] at hno
  rw [← hps] at hnb
  simp only
  rw [← hpo2, ← hps]
  simp only [go_sem, Mach.cells, hpm, List.set_set, Int.natCast_add, Int.natCast_one, hno, hnb] <;> rfl
 have hx0l : (s.wd n).length ≠ 0 := fun h => hx0 (List.length_eq_zero_iff.1 h)
 have hx0e : (s.wd n).isEmpty = false := by cases hw : s.wd n with
  | nil => exact absurd hw hx0
  | cons _ _ => rfl
 have hgo2 : (s.out.map wA)[n]? = some [.sl false ((s.wd n).map natC) .unk] := by rw [hgo, wA, hx0e, wCp, if_neg hx0]
 obtain ⟨w, hw⟩ : ∃ w, w = s.wd n ++ [i] := ⟨_, rfl⟩
 have hsn : (s.wd n).map natC ++ [[.sc (.int .i64 i)]] = w.map natC := by rw [hw]; simp [natC]
 have hsl : (s.wd n).length + 1 = w.length := by rw [hw]; simp
 have hy : ∀ a ∈ s.wd n, (natC a).length = 1 := fun _ _ => rfl
 have hr3 : room (s.wd n).length 8 = true := by simp only [room_eq, decide_eq_true_eq]; omega
 have hr4 : room w.length 8 = true := by simp only [room_eq, decide_eq_true_eq]; omega
 refine EvC.seq (EvC.rg (by simp only [go_sem, hgo2, hgk2, hnin, hkin, hlo, hsn, hsl, wA, List.drop_succ_cons, List.drop_zero, List.length_map] <;> rfl) (by simp; exact ⟨⟨⟨hnN, hr3, hy⟩, hr4⟩, hkN⟩) ?_)
 refine EvC.frz 48 (by simp only [go_sem, List.length_map] <;> rfl) ?_
 refine EvC.snapE 0 k (by simp only [go_sem, hset, List.length_map] <;> rfl) ?_
 rw [← hw] at hpo
 refine EvC.rg (by simp only [go_sem] <;> rfl) (by exact inI64_of (by omega) (by omega)) ?_
 refine EvC.rg (by simp only [go_sem] <;> rfl) (by exact inI64_of (by omega) (by omega)) ?_
 refine ⟨[(0, 0), (1, 1)], (i + 1, s.put k n i), rfl, ?_, ⟨by simp only; omega, hput, f3⟩, by simp only; omega⟩
 have hno := norefs_wA (s.put k n i).out
 have hnb := norefs_bC (s.put k n i).seen
 rw [← hpo] at hno
 rw [← hps] at hnb
 simp only
 rw [← hpo, ← hps]
 simp only [go_sem, Mach.cells, hpm, List.set_set, Int.natCast_add, Int.natCast_one, hno, hnb] <;> rfl
end Go.Avl
namespace Go.Avl
open Go Go.Proofs.Try
set_option maxRecDepth 10000
set_option linter.unusedSimpArgs false
def wT (t : Mach) : Nat → Nat → List Nat
 | 0, _ => []
 | d + 1, n => if n = 0 then [] else wT t d (parT t n).1 ++ [(parT t n).2]
def wordN (t : Mach) (n : Nat) : List Nat := wT t n n
theorem wordN_zero (t : Mach) : wordN t 0 = [] := rfl
theorem wT_more {t : Mach} (v : TV t) (tp : TP t) : ∀ (n d d' : Nat), n < t.rows.length → n ≤ d → n ≤ d' → wT t d n = wT t d' n := by
 intro n
 induction n using Nat.strongRecOn with
 | _ n ih =>
   intro d d' hn h1 h2
   by_cases h0 : n = 0
   ·subst h0
    cases d <;> cases d' <;> rfl
   ·have hp := parT_lt v tp (by omega) hn
    obtain ⟨d, rfl⟩ : ∃ k, d = k + 1 := ⟨d - 1, by omega⟩
    obtain ⟨d', rfl⟩ : ∃ k, d' = k + 1 := ⟨d' - 1, by omega⟩
    rw [wT, wT, if_neg h0, if_neg h0, ih _ hp.1 d d' (by omega) (by omega) (by omega)]
theorem wordN_eq {t : Mach} (v : TV t) (tp : TP t) {n : Nat} (h0 : 1 ≤ n) (hn : n < t.rows.length) : wordN t n = wordN t (parT t n).1 ++ [(parT t n).2] := by
 have hp := parT_lt v tp h0 hn
 unfold wordN
 obtain ⟨d, rfl⟩ : ∃ k, n = k + 1 := ⟨n - 1, by omega⟩
 rw [wT, if_neg (by omega), wT_more v tp _ d _ (by omega) (by omega) (Nat.le_refl _)]
theorem wordN_edge {t : Mach} (v : TV t) (tp : TP t) {p i n : Nat} (h1 : p < t.rows.length) (h2 : (i : Int) < t.ins) (h3 : (eT t p i).1 = (n : Int)) : p < n ∧ n < t.rows.length ∧ parT t n = (p, i) ∧ wordN t n = wordN t p ++ [i] := by
 have he := v.edge h1 h2
 have hpn : p < n := by omega
 have hpar := parT_eq tp hpn h2 h3
 have hw := wordN_eq v tp (n := n) (by omega) (by omega)
 rw [hpar] at hw
 exact ⟨hpn, by omega, hpar, hw⟩
theorem parT_to {t : Mach} (v : TV t) (tp : TP t) {n : Nat} (h0 : 1 ≤ n) (hn : n < t.rows.length) : (eT t (parT t n).1 (parT t n).2).1 = (n : Int) := by
 obtain ⟨p, i, k1, k2, k3⟩ := tp.has n h0 hn
 rw [parT_eq tp k1 k2 k3]; exact k3
theorem wordN_le {t : Mach} (v : TV t) (tp : TP t) : ∀ n, n < t.rows.length → (wordN t n).length ≤ n := by
 intro n
 induction n using Nat.strongRecOn with
 | _ n ih =>
   intro hn
   by_cases h0 : n = 0
   ·subst h0; simp [wordN_zero]
   ·have hp := parT_lt v tp (by omega) hn
    have := ih _ hp.1 (by omega)
    rw [wordN_eq v tp (by omega) hn]
    simp; omega
structure WI (t : Mach) (m0 r n i : Nat) (s : WS) : Prop where
 ok : s.Ok t.rows.length
 has : ∀ m, m < t.rows.length → (s.has m = true ↔ (wordN t m).length ≤ r ∨ (wordN t m).length = r + 1 ∧ ((parT t m).1 < n ∨ (parT t m).1 = n ∧ (parT t m).2 < i))
 wd : ∀ m, m < t.rows.length → s.has m = true → s.wd m = wordN t m
 ge : m0 ≤ s.many
 new : s.many = m0 → ∀ m, m < t.rows.length → (wordN t m).length = r + 1 → ¬ ((parT t m).1 < n ∨ (parT t m).1 = n ∧ (parT t m).2 < i)
theorem WS.has_put {s : WS} {N to n i : Nat} (h : s.Ok N) (ht : to < N) (m : Nat) : (s.put to n i).has m = if m = to then true else s.has m := by
 unfold WS.has WS.put
 simp only [List.getElem?_set]
 by_cases e : to = m
 ·subst e; rw [if_pos rfl, if_pos (by rw [h.seen]; exact ht), if_pos rfl]; rfl
 ·rw [if_neg e, if_neg (fun h => e h.symm)]
theorem WS.wd_put {s : WS} {N to n i : Nat} (h : s.Ok N) (ht : to < N) (m : Nat) : (s.put to n i).wd m = if m = to then s.wd n ++ [i] else s.wd m := by
 unfold WS.wd WS.put
 simp only [List.getElem?_set]
 by_cases e : to = m
 ·subst e; rw [if_pos rfl, if_pos (by rw [h.out]; exact ht), if_pos rfl]; rfl
 ·rw [if_neg e, if_neg (fun h => e h.symm)]
theorem WI.wE {t : Mach} (v : TV t) (tp : TP t) {m0 r n : Nat} (hr : r < t.rows.length) (hn : n < t.rows.length) : ∀ (d i : Nat) (s : WS), d + i = t.ins.toNat → WI t m0 r n i s → ∃ s', wE t r n d i s = some s' ∧ WI t m0 r (n + 1) 0 s'
 | 0, i, s, hd, h => by
   have e : ∀ m, m < t.rows.length → (wordN t m).length = r + 1 → (((parT t m).1 < n ∨ (parT t m).1 = n ∧ (parT t m).2 < i) ↔ ((parT t m).1 < n + 1 ∨ (parT t m).1 = n + 1 ∧ (parT t m).2 < 0)) := fun m hm hl => by
    have := parT_in v tp hm
    omega
   exact ⟨s, rfl, ⟨h.ok, fun m hm => by
    rw [h.has m hm]
    constructor
    ·rintro (h1 | ⟨h1, h2⟩)
     ·exact .inl h1
     ·exact .inr ⟨h1, (e m hm h1).1 h2⟩
    ·rintro (h1 | ⟨h1, h2⟩)
     ·exact .inl h1
     ·exact .inr ⟨h1, (e m hm h1).2 h2⟩, h.wd, h.ge, fun hm0 m hm hl hq => h.new hm0 m hm hl ((e m hm hl).2 hq)⟩⟩
 | d + 1, i, s, hd, h => by
   rw [Go.Avl.wE]
   have hii : (i : Int) < t.ins := by have := v.ins; omega
   by_cases hc : s.has n = true ∧ (s.wd n).length = r
   rotate_left
   ·rw [if_neg hc]
    have hdn : (wordN t n).length ≠ r := fun e => by
     have h1 : s.has n = true := (h.has n hn).2 (.inl (by omega))
     exact hc ⟨h1, by rw [h.wd n hn h1]; exact e⟩
    have e : ∀ m, m < t.rows.length → (wordN t m).length = r + 1 → (parT t m).1 ≠ n := fun m hm hl hq => by
     have h0 : 1 ≤ m := by
      by_cases h0 : m = 0
      ·subst h0; rw [wordN_zero] at hl; simp at hl
      ·omega
     have := wordN_eq v tp h0 hm
     rw [hq] at this
     rw [this] at hl
     simp at hl
     exact hdn hl
    have e2 : ∀ m, m < t.rows.length → (wordN t m).length = r + 1 → (((parT t m).1 < n ∨ (parT t m).1 = n ∧ (parT t m).2 < i) ↔ ((parT t m).1 < n + 1 ∨ (parT t m).1 = n + 1 ∧ (parT t m).2 < 0)) := fun m hm hl => by
     have := e m hm hl
     omega
    exact ⟨s, rfl, ⟨h.ok, fun m hm => by
     rw [h.has m hm]
     constructor
     ·rintro (h1 | ⟨h1, h2⟩)
      ·exact .inl h1
      ·exact .inr ⟨h1, (e2 m hm h1).1 h2⟩
     ·rintro (h1 | ⟨h1, h2⟩)
      ·exact .inl h1
      ·exact .inr ⟨h1, (e2 m hm h1).2 h2⟩, h.wd, h.ge, fun hm0 m hm hl hq => h.new hm0 m hm hl ((e2 m hm hl).2 hq)⟩⟩
   rw [if_pos hc]
   obtain ⟨hc1, hc2⟩ := hc
   have hwn := h.wd n hn hc1
   rw [hwn] at hc2
   have eP := v.edge hn hii
   by_cases h1 : (eT t n i).1 = -1
   ·rw [if_pos h1]
    have e : ∀ m, m < t.rows.length → (wordN t m).length = r + 1 → ¬ ((parT t m).1 = n ∧ (parT t m).2 = i) := fun m hm hl hq => by
     have h0 : 1 ≤ m := by
      by_cases h0 : m = 0
      ·subst h0; rw [wordN_zero] at hl; simp at hl
      ·omega
     have := parT_to v tp h0 hm
     rw [hq.1, hq.2, h1] at this
     omega
    have e2 : ∀ m, m < t.rows.length → (wordN t m).length = r + 1 → (((parT t m).1 < n ∨ (parT t m).1 = n ∧ (parT t m).2 < i) ↔ ((parT t m).1 < n ∨ (parT t m).1 = n ∧ (parT t m).2 < i + 1)) := fun m hm hl => by
     have := e m hm hl
     omega
    exact WI.wE v tp hr hn d (i + 1) s (by omega) ⟨h.ok, fun m hm => by
     rw [h.has m hm]
     constructor
     ·rintro (h1 | ⟨h1, h2⟩)
      ·exact .inl h1
      ·exact .inr ⟨h1, (e2 m hm h1).1 h2⟩
     ·rintro (h1 | ⟨h1, h2⟩)
      ·exact .inl h1
      ·exact .inr ⟨h1, (e2 m hm h1).2 h2⟩, h.wd, h.ge, fun hm0 m hm hl hq => h.new hm0 m hm hl ((e2 m hm hl).2 hq)⟩
   ·rw [if_neg h1]
    obtain ⟨k, hk⟩ : ∃ k : Nat, (eT t n i).1 = (k : Int) := ⟨(eT t n i).1.toNat, by omega⟩
    rw [hk, Int.toNat_natCast]
    obtain ⟨k1, k2, k3, k4⟩ := wordN_edge v tp hn hii hk
    have hkl : (wordN t k).length = r + 1 := by rw [k4]; simp; omega
    have hkh : s.has k = false := by
     cases hb : s.has k with
     | false => rfl
     | true =>
       have := (h.has k k2).1 hb
       rw [k3] at this
       simp only at this
       omega
    rw [hkh, if_neg (by simp)]
    refine WI.wE v tp hr hn d (i + 1) _ (by omega) ⟨h.ok.put k2 hkh (by rw [hwn]; omega), fun m hm => ?_, fun m hm hb => ?_, by have := h.ge; simp only [WS.put]; omega, fun hm0 => by have := h.ge; simp only [WS.put] at hm0; omega⟩
    ·rw [WS.has_put h.ok k2]
     by_cases e : m = k
     ·subst e
      rw [if_pos rfl]
      refine ⟨fun _ => .inr ⟨hkl, .inr ?_⟩, fun _ => rfl⟩
      rw [k3]; exact ⟨rfl, Nat.lt_succ_self _⟩
     ·rw [if_neg e, h.has m hm]
      have e3 : (wordN t m).length = r + 1 → ¬ ((parT t m).1 = n ∧ (parT t m).2 = i) := fun hl hq => by
       have h0 : 1 ≤ m := by
        by_cases h0 : m = 0
        ·subst h0; rw [wordN_zero] at hl; simp at hl
        ·omega
       have := parT_to v tp h0 hm
       rw [hq.1, hq.2, hk] at this
       omega
      constructor
      ·rintro (h1 | ⟨h1, h2⟩)
       ·exact .inl h1
       ·exact .inr ⟨h1, by omega⟩
      ·rintro (h1 | ⟨h1, h2⟩)
       ·exact .inl h1
       ·have := e3 h1
        exact .inr ⟨h1, by omega⟩
    ·rw [WS.has_put h.ok k2] at hb
     rw [WS.wd_put h.ok k2]
     by_cases e : m = k
     ·subst e
      rw [if_pos rfl, hwn, k4]
     ·rw [if_neg e] at hb ⊢
      exact h.wd m hm hb
theorem WI.wN {t : Mach} (v : TV t) (tp : TP t) {m0 r : Nat} (hr : r < t.rows.length) : ∀ (d n : Nat) (s : WS), d + n = t.rows.length → WI t m0 r n 0 s → ∃ s', wN t r d n s = some s' ∧ WI t m0 r t.rows.length 0 s'
 | 0, n, s, hd, h => ⟨s, rfl, by rw [← hd, Nat.zero_add]; exact h⟩
 | d + 1, n, s, hd, h => by
   obtain ⟨s1, h1, h2⟩ := WI.wE v tp hr (by omega) t.ins.toNat 0 s (by omega) h
   rw [Go.Avl.wN, h1]
   exact WI.wN v tp hr d (n + 1) s1 (by omega) h2
theorem wordN_deep {t : Mach} (v : TV t) (tp : TP t) {r : Nat} (h : ∀ m, m < t.rows.length → (wordN t m).length ≠ r + 1) : ∀ m, m < t.rows.length → (wordN t m).length ≤ r := by
 intro m
 induction m using Nat.strongRecOn with
 | _ m ih =>
   intro hm
   by_cases h0 : m = 0
   ·subst h0; simp [wordN_zero]
   ·have hp := parT_lt v tp (by omega) hm
    have := ih _ hp.1 (by omega)
    have e := wordN_eq v tp (by omega) hm
    have := h m hm
    rw [e] at this ⊢
    simp at this ⊢
    omega
theorem WI.wR {t : Mach} (v : TV t) (tp : TP t) : ∀ (d r : Nat) (s : WS), d + r = t.rows.length → WI t s.many r 0 0 s → ∃ s', wR t d r s = some s' ∧ s'.Ok t.rows.length ∧ ∀ m, m < t.rows.length → s'.has m = true ∧ s'.wd m = wordN t m
 | 0, r, s, hd, h => ⟨s, rfl, h.ok, fun m hm => by
   have hl := wordN_le v tp m hm
   have hh := (h.has m hm).2 (.inl (by omega))
   exact ⟨hh, h.wd m hm hh⟩⟩
 | d + 1, r, s, hd, h => by
   obtain ⟨s1, h1, h2⟩ := WI.wN v tp (by omega) t.rows.length 0 s (by omega) h
   rw [Go.Avl.wR, h1]
   simp only
   have hend : ∀ m, m < t.rows.length → ((parT t m).1 < t.rows.length ∨ (parT t m).1 = t.rows.length ∧ (parT t m).2 < 0) := fun m hm => by
    have := parT_in v tp hm
    omega
   by_cases hm : s1.many = s.many
   ·rw [if_pos hm]
    refine ⟨s1, rfl, h2.ok, fun m hk => ?_⟩
    have hl := wordN_deep v tp (r := r) (fun m hk hl => h2.new hm m hk hl (hend m hk)) m hk
    have hh := (h2.has m hk).2 (.inl hl)
    exact ⟨hh, h2.wd m hk hh⟩
   ·rw [if_neg hm]
    refine WI.wR v tp d (r + 1) s1 (by omega) ⟨h2.ok, fun m hk => ?_, h2.wd, Nat.le_refl _, fun _ m hk hl => by omega⟩
    rw [h2.has m hk]
    have := hend m hk
    constructor
    ·rintro (h1 | ⟨h1, _⟩)
     ·exact .inl (by omega)
     ·exact .inl (by omega)
    ·rintro (h1 | ⟨h1, h3⟩)
     ·by_cases e : (wordN t m).length ≤ r
      ·exact .inl e
      ·exact .inr ⟨by omega, this⟩
     ·omega
theorem wordsR_valid {t : Mach} (v : TV t) (tp : TP t) : wordsR t = some ((List.range t.rows.length).map (wordN t)) := by
 have hrw := v.rows
 have hok := ws0_ok hrw.1
 have hhas : ∀ m, m < t.rows.length → (ws0 t.rows.length).has m = decide (m = 0) := fun m hm => by
  unfold WS.has ws0
  simp only [List.getElem?_set, List.length_replicate]
  by_cases e : m = 0
  ·subst e; rw [if_pos rfl, if_pos hm]; rfl
  ·rw [if_neg (fun h => e h.symm), List.getElem?_replicate, if_pos hm, decide_eq_false e]; rfl
 obtain ⟨s, h1, h2, h3⟩ := WI.wR v tp t.rows.length 0 (ws0 t.rows.length) (by omega) ⟨hok, fun m hm => by
  rw [hhas m hm, decide_eq_true_eq]
  constructor
  ·intro h; subst h; exact .inl (by simp [wordN_zero])
  ·rintro (h | ⟨_, h⟩)
   ·by_cases h0 : m = 0
    ·exact h0
    ·have := wordN_eq v tp (by omega) hm
     rw [this] at h
     simp at h
   ·omega, fun m hm hb => by
  rw [hhas m hm, decide_eq_true_eq] at hb
  subst hb
  rw [wordN_zero]
  unfold WS.wd ws0
  simp only [List.getElem?_replicate]
  split <;> rfl, Nat.le_refl _, fun _ m hm hl => by omega⟩
 unfold wordsR
 rw [h1]
 have hall : s.seen = List.replicate t.rows.length true := by
  apply List.ext_getElem?
  intro m
  by_cases hm : m < t.rows.length
  ·rw [h2.has_get hm, (h3 m hm).1, List.getElem?_replicate, if_pos hm]
  ·rw [List.getElem?_eq_none (by rw [h2.seen]; omega), List.getElem?_replicate, if_neg hm]
 have hmany : s.many = t.rows.length := by
  rw [h2.many, hall, List.countP_replicate]; simp
 simp only
 rw [if_neg (by omega)]
 congr 1
 apply List.ext_getElem?
 intro m
 by_cases hm : m < t.rows.length
 ·rw [h2.wd_get hm, (h3 m hm).2, List.getElem?_map, List.getElem?_range hm]; rfl
 ·rw [List.getElem?_eq_none (by rw [h2.out]; omega), List.getElem?_eq_none (by simp; omega)]
end Go.Avl
namespace Go.Avl
open Go Go.Proofs.Try
set_option maxRecDepth 10000
set_option linter.unusedSimpArgs false
end Go.Avl
namespace Go.Avl
open Go Go.Proofs.Try
set_option maxRecDepth 10000
set_option linter.unusedSimpArgs false
def aftI (m : Mach) : Int → List Nat → Int
 | s, [] => s
 | s, a :: w => aftI m (stepR m s (a : Int)).1 w
def castW (w : List Nat) : List Int := w.map fun (x : Nat) => (x : Int)
theorem aftI_snoc (m : Mach) (i : Nat) : ∀ (s : Int) (w : List Nat), aftI m s (w ++ [i]) = (stepR m (aftI m s w) (i : Int)).1
 | _, [] => rfl
 | _, _ :: w => aftI_snoc m i _ w
theorem runR_snoc (m : Mach) (i : Nat) : ∀ (s : Int) (w : List Nat), runR m s (castW (w ++ [i])) = runR m s (castW w) ++ [(stepR m (aftI m s w) (i : Int)).2]
 | _, [] => by simp only [castW, List.nil_append, List.map_cons, List.map_nil, runR, aftI]
 | s, a :: w => by
   have := runR_snoc m i (stepR m s (a : Int)).1 w
   simp only [castW, List.cons_append, List.map_cons, runR] at this ⊢
   rw [this]; rfl
theorem stepR_eT (m : Mach) (s i : Nat) : stepR m (s : Int) (i : Int) = eT m s i := by
 unfold stepR
 rw [if_neg (by omega)]; rfl
def outT (x : Int × Int) : Int := if x.1 = -1 then -1 else x.2
def okW (t m : Mach) (n i : Nat) : Bool := !knownE (eT t n i) || decide ((stepR m (aftI m 0 (wordN t n)) (i : Int)).2 = outT (eT t n i))
theorem FitH.aft {t m : Mach} (v : TV t) (tp : TP t) {h : Nat → Nat} (hf : FitH t m h) : ∀ n, n < t.rows.length → aftI m 0 (wordN t n) = (h n : Int) := by
 intro n
 induction n using Nat.strongRecOn with
 | _ n ih =>
   intro hn
   by_cases h0 : n = 0
   ·subst h0; rw [wordN_zero, aftI, hf.root]; rfl
   ·have hp := parT_lt v tp (by omega) hn
    have he := parT_to v tp (n := n) (by omega) hn
    rw [wordN_eq v tp (by omega) hn, aftI_snoc, ih _ hp.1 (by omega), stepR_eT]
    have := (hf.ok _ _ (show (parT t n).1 < t.rows.length by omega) hp.2).2 (by omega)
    rw [this, he, Int.toNat_natCast]
theorem FitH.okW {t m : Mach} (v : TV t) (tp : TP t) (vm : Valid m) (hins : m.ins = t.ins) {h : Nat → Nat} (hf : FitH t m h) {n i : Nat} (hn : n < t.rows.length) (hi : (i : Int) < t.ins) : okW t m n i = true := by
 have h1 := (hf.ok n i hn hi).1
 unfold Go.Avl.okW
 rw [hf.aft v tp n hn, stepR_eT]
 unfold okB at h1
 cases hk : knownE (eT t n i) with
 | false => rfl
 | true =>
   rw [hk] at h1
   simp only [Bool.not_true, Bool.false_or, Bool.and_eq_true, Bool.or_eq_true, beq_iff_eq, decide_eq_true_eq, decide_eq_decide] at h1 ⊢
   unfold outT
   by_cases hx : (eT t n i).1 = -1
   ·rw [if_pos hx]
    have hy := h1.1.1 hx
    by_cases hs : h n < m.rows.length
    ·obtain ⟨_, _, _, _, he⟩ := vm.edge hs (i := i) (by omega)
     rcases he with he | he
     ·rw [he]
     ·omega
    ·have : m.rows[h n]? = none := List.getElem?_eq_none (by omega)
     simp [eT, this]
   ·rw [if_neg hx]
    exact h1.2.resolve_left hx
theorem okW_fit {t m : Mach} (v : TV t) (tp : TP t) (vm : Valid m) (hins : m.ins = t.ins) (h : ∀ n i : Nat, n < t.rows.length → (i : Int) < t.ins → okW t m n i = true) : FitH t m fun n => (aftI m 0 (wordN t n)).toNat := by
 have hpos : ∀ n, n < t.rows.length → 0 ≤ aftI m 0 (wordN t n) ∧ aftI m 0 (wordN t n) < m.rows.length := by
  intro n
  induction n using Nat.strongRecOn with
  | _ n ih =>
    intro hn
    by_cases h0 : n = 0
    ·subst h0; rw [wordN_zero, aftI]; have := vm.rows; omega
    ·have hp := parT_lt v tp (by omega) hn
     have he := parT_to v tp (n := n) (by omega) hn
     have hk := h _ _ (show (parT t n).1 < t.rows.length by omega) hp.2
     have hv := v.edge (show (parT t n).1 < t.rows.length by omega) hp.2
     have ih := ih _ hp.1 (by omega)
     rw [wordN_eq v tp (by omega) hn, aftI_snoc]
     obtain ⟨s, hs⟩ : ∃ s : Nat, aftI m 0 (wordN t (parT t n).1) = (s : Int) := ⟨_, (Int.toNat_of_nonneg ih.1).symm⟩
     unfold okW at hk
     rw [knownE_to (show (eT t (parT t n).1 (parT t n).2).1 ≠ -1 by omega), hs, stepR_eT, outT, if_neg (by omega)] at hk
     rw [hs, stepR_eT]
     simp only [Bool.not_true, Bool.false_or, decide_eq_true_eq] at hk
     obtain ⟨_, _, _, _, hx⟩ := vm.edge (show s < m.rows.length by omega) (i := (parT t n).2) (by omega)
     rcases hx with hx | hx
     ·rw [hx] at hk; simp only at hk; omega
     ·omega
 refine ⟨by rw [wordN_zero]; rfl, fun n i hn hi => ?_⟩
 have hp := hpos n hn
 obtain ⟨s, hs⟩ : ∃ s : Nat, aftI m 0 (wordN t n) = (s : Int) := ⟨_, (Int.toNat_of_nonneg hp.1).symm⟩
 have hk := h n i hn hi
 unfold okW at hk
 rw [hs, stepR_eT] at hk
 rw [hs, Int.toNat_natCast]
 obtain ⟨_, _, _, _, hx⟩ := vm.edge (show s < m.rows.length by omega) (i := i) (by omega)
 have hv := v.edge hn hi
 refine ⟨?_, fun hne => ?_⟩
 ·unfold okB
  cases hkn : knownE (eT t n i) with
  | false => rfl
  | true =>
    rw [hkn] at hk
    unfold outT at hk
    simp only [Bool.not_true, Bool.false_or, decide_eq_true_eq] at hk
    by_cases h1 : (eT t n i).1 = -1
    ·rw [if_pos h1] at hk
     have : (eT m s i).1 = -1 := by
      rcases hx with hx | hx
      ·rw [hx]
      ·omega
     rw [h1, this]; rfl
    ·rw [if_neg h1] at hk
     have : (eT m s i).1 ≠ -1 := by
      rcases hx with hx | hx
      ·rw [hx] at hk; simp only at hk; omega
      ·omega
     rw [decide_eq_false h1, decide_eq_false this, hk]; simp
 ·obtain ⟨k, hk⟩ : ∃ k : Nat, (eT t n i).1 = (k : Int) := ⟨(eT t n i).1.toNat, by omega⟩
  obtain ⟨q1, q2, q3, q4⟩ := wordN_edge v tp hn hi hk
  rw [hk, Int.toNat_natCast]
  have := hpos k q2
  rw [q4, aftI_snoc, hs, stepR_eT] at this ⊢
  omega
theorem fitB_iff {t m : Mach} (v : TV t) (tp : TP t) (vm : Valid m) (hins : m.ins = t.ins) : fitB t m = true ↔ ∀ n i : Nat, n < t.rows.length → (i : Int) < t.ins → okW t m n i = true := by
 classical
 unfold fitB
 rw [decide_eq_true_eq]
 exact ⟨fun ⟨h, hf⟩ n i hn hi => hf.okW v tp vm hins hn hi, fun h => ⟨_, okW_fit v tp vm hins h⟩⟩
end Go.Avl
namespace Go.Avl
open Go Go.Proofs.Try
set_option maxRecDepth 10000
set_option linter.unusedSimpArgs false
theorem castW_mem {t : Mach} (v : TV t) (tp : TP t) : ∀ n, n < t.rows.length → ∀ a ∈ castW (wordN t n), 0 ≤ a ∧ a < t.ins := by
 intro n
 induction n using Nat.strongRecOn with
 | _ n ih =>
   intro hn a ha
   by_cases h0 : n = 0
   ·subst h0; rw [wordN_zero] at ha; cases ha
   ·have hp := parT_lt v tp (by omega) hn
    rw [wordN_eq v tp (by omega) hn, castW, List.map_append] at ha
    rcases List.mem_append.1 ha with ha | ha
    ·exact ih _ hp.1 (by omega) a ha
    ·simp at ha; omega
theorem castW_natC (w : List Nat) : (castW w).map intC = w.map natC := by unfold castW; rw [List.map_map]; rfl
set_option maxHeartbeats 8000000 in
theorem fits24_is {t m : Mach} (v : TV t) (tp : TP t) (vm : Valid m) (hins : m.ins = t.ins) : PureIs prog 24 [.ag m.cells, .ag t.cells] (.sc (.bool (fitB t m))) := by
 have hrw := v.rows
 have hin := v.ins
 have hWd := words56_is v.tg
 rw [wordsR_valid v tp] at hWd
 have hiff := fitB_iff v tp vm hins
 obtain ⟨N, hN⟩ : ∃ N, N = t.rows.length := ⟨_, rfl⟩
 rw [← hN] at hWd hrw
 generalize fitB t m = B at hiff
 obtain ⟨L, hL⟩ : ∃ L, L = (List.range N).map (wordN t) := ⟨_, rfl⟩
 rw [← hL] at hWd
 have hLl : (L.map wA).length = N := by rw [hL]; simp
 rw [wordsA] at hWd
 refine PureIs.of (nv := 11) (hid := [8, 16, 22, 35, 51, 59]) func24 rfl (by kernel_rfl) (by simp [ntmps24]) fun _ => ?_
 rw [ntmps24, results24]
 refine EvC.seq (EvC.rg (by simp only [go_sem, Mach.cells] <;> rfl) (by simp) ?_)
 refine EvC.frzB 0 (by simp only [go_sem] <;> rfl) ?_
 refine EvC.frzB 1 (by simp only [go_sem] <;> rfl) ?_
 rw [Mach.cells] at hWd
 apply EvC.seq
 apply EvC.tr
 ·apply Tr.run
  ·simp only [go_sem] <;> rfl
  ·simp
  apply Tr.cons
  ·exact .call rfl rfl (by simp only [go_sem] <;> rfl) (by simp only [go_sem] <;> rfl) (by simp only [go_sem] <;> rfl) (by simp only [go_sem] <;> rfl) (by simp only [go_sem] <;> rfl) (hWd)
  apply Tr.done
  ·simp only [go_sem] <;> rfl
  ·simp
 refine EvC.seq ?_
 refine EvC.seq (EvC.rg (by simp only [go_sem] <;> rfl) (by simp) ?_)
 refine EvC.block ?_
 refine EvC.loopS (σ := Nat) (fun n => ⟨[(2, .ia m.cells), (3, .ia t.cells), (5, .sl false (L.map wA) .full), (6, .sc (.int .i64 n))], [], [], 0⟩) (fun n => N - n)
  (fun n => n ≤ N ∧ ∀ q i : Nat, q < n → (i : Int) < t.ins → okW t m q i = true) [2, 3, 5, 6] 0 ?_ ?_
 ·exact ⟨[], 0, rfl, (by simp only [go_sem, Mach.cells, Int.natCast_zero] <;> rfl), Nat.zero_le _, fun q i h => by omega⟩
 rintro n ⟨h1, h2⟩
 simp only at h1 h2 ⊢
 refine EvC.seq ?_
 refine EvC.seq (EvC.rg (by simp only [go_sem, hLl] <;> rfl) (by simp) ?_)
 refine EvC.cond (by simp only [go_sem] <;> rfl) (fun hc => ?_) (fun hc => ?_)
 rotate_left
 ·
  have hc : ¬ n < N := by simpa using hc
  have hB : B = true := hiff.2 fun q i hq hi => h2 q i (by omega) hi
  subst hB
  refine EvC.exit ?_
  refine EvC.seq (EvC.rg (by simp only [go_sem] <;> rfl) (by simp) ?_)
  refine EvC.ret ⟨.inl rfl, _, (by simp only [go_sem] <;> rfl), ?_, rfl⟩
  simp only [go_sem]
 have hnN : n < N := by simpa using hc
 clear hc
 refine EvC.skip ?_
 refine EvC.seq ?_
 refine EvC.block ?_
 refine EvC.seq (EvC.rg (by simp only [go_sem] <;> rfl) (by simp) ?_)
 refine EvC.block ?_
 refine EvC.loopS (σ := Nat) (fun i => ⟨[(2, .ia m.cells), (3, .ia t.cells), (5, .sl false (L.map wA) .full), (6, .sc (.int .i64 n)), (7, .sc (.int .i64 i))], [], [], 0⟩) (fun i => t.ins.toNat - i)
  (fun i => (i : Int) ≤ t.ins ∧ ∀ j : Nat, j < i → okW t m n j = true) [2, 3, 5, 6, 7] 0 ?_ ?_
 ·exact ⟨[], 0, rfl, (by simp only [go_sem, Mach.cells, Int.natCast_zero] <;> rfl), by omega, fun j h => by omega⟩
 rintro i ⟨g1, g2⟩
 simp only at g1 g2 ⊢
 have hnin : (n : Int).toNat = n := Int.toNat_natCast n
 have hiin : (i : Int).toNat = i := Int.toNat_natCast i
 refine EvC.seq ?_
 refine EvC.seq (EvC.rg (by simp only [go_sem, Mach.cells] <;> rfl) (by simp) ?_)
 refine EvC.cond (by simp only [go_sem] <;> rfl) (fun hc => ?_) (fun hc => ?_)
 rotate_left
 ·
  have hc : ¬ (i : Int) < t.ins := by simpa using hc
  refine EvC.exit ?_
  refine EvC.rg (by simp only [go_sem] <;> rfl) (by exact inI64_of (by omega) (by omega)) ?_
  refine ⟨[], n + 1, rfl, (by simp only [go_sem, Mach.cells, Int.natCast_add, Int.natCast_one] <;> rfl), ⟨hnN, fun q j hq hj => ?_⟩, by omega⟩
  by_cases e : q = n
  ·subst e; exact g2 j (by omega)
  ·exact h2 q j (by omega) hj
 have hi : (i : Int) < t.ins := by simpa using hc
 clear hc
 refine EvC.skip ?_
 refine EvC.seq ?_
 refine EvC.block ?_
 obtain ⟨A, hA, hAl, hAi⟩ := row_get v (n := n) (i := i) (by omega) hi
 have hok : okW t m n i = (!knownE (eT t n i) || decide ((stepR m (aftI m 0 (wordN t n)) (i : Int)).2 = outT (eT t n i))) := rfl
 generalize hx : eT t n i = x at hAi hok
 obtain ⟨e1, e2⟩ := x
 refine EvC.seq (EvC.rg (by simp only [go_sem, Mach.cells, hA, hAi, hnin, hiin, rowC, edgeC, List.length_map] <;> rfl) (by simp; try omega) ?_)
 refine EvC.frzB 12 (by simp only [go_sem] <;> rfl) ?_
 refine EvC.seq ?_
 have hK := known57_is e1 e2
 cases hk : knownE (e1, e2) with
 | false =>
   rw [hk] at hK hok
   apply EvC.seq
   apply EvC.tr
   ·apply Tr.run
    ·simp only [go_sem] <;> rfl
    ·simp
    apply Tr.cons
    ·exact .call rfl rfl (by simp only [go_sem] <;> rfl) (by simp only [go_sem] <;> rfl) (by simp only [go_sem] <;> rfl) (by simp only [go_sem] <;> rfl) (by simp only [go_sem] <;> rfl) (hK)
    apply Tr.done
    ·simp only [go_sem] <;> rfl
    ·simp
   refine EvC.cond_true (by simp only [go_sem] <;> rfl) ?_
   refine EvC.exit ?_
   refine EvC.rg (by simp only [go_sem] <;> rfl) (by exact inI64_of (by omega) (by omega)) ?_
   refine ⟨[], i + 1, rfl, (by simp only [go_sem, Mach.cells, Int.natCast_add, Int.natCast_one] <;> rfl), ⟨by omega, fun j hj => ?_⟩, by omega⟩
   by_cases e : j = i
   ·subst e; rw [hok]; rfl
   ·exact g2 j (by omega)
 | true =>
 rw [hk] at hK hok
 apply EvC.seq
 apply EvC.tr
 ·apply Tr.run
  ·simp only [go_sem] <;> rfl
  ·simp
  apply Tr.cons
  ·exact .call rfl rfl (by simp only [go_sem] <;> rfl) (by simp only [go_sem] <;> rfl) (by simp only [go_sem] <;> rfl) (by simp only [go_sem] <;> rfl) (by simp only [go_sem] <;> rfl) (hK)
  apply Tr.done
  ·simp only [go_sem] <;> rfl
  ·simp
 refine EvC.cond_false (by simp only [go_sem] <;> rfl) ?_
 refine EvC.skip ?_
 refine EvC.gcE [2, 3, 5, 6, 7, 8] [] 0 rfl (by simp only [go_sem] <;> rfl) ?_
 obtain ⟨w, hw⟩ : ∃ w, w = wordN t n ++ [i] := ⟨_, rfl⟩
 have hwl := wordN_le v tp n (by omega)
 have hRun := run04_is vm 0 (by have := vm.rows; omega) false (castW w) .unk (fun a ha => by
  rw [hw, castW, List.map_append] at ha
  rcases List.mem_append.1 ha with ha | ha
  ·have := castW_mem v tp n (by omega) a ha; omega
  ·simp at ha; omega) (by rw [hw, castW]; simp; omega)
 have hrs := runR_snoc m i 0 (wordN t n)
 rw [← hw] at hrs
 rw [castW_natC] at hRun
 have hrl : (runR m 0 (castW w)).length = w.length := by rw [runR_len, castW]; simp
 have hw0 : w.length = (wordN t n).length + 1 := by rw [hw]; simp
 have hre : (runR m 0 (castW w)).isEmpty = false := by cases hq : runR m 0 (castW w) with
  | nil => rw [hq] at hrl; simp at hrl; omega
  | cons _ _ => rfl
 have hlast : (runR m 0 (castW w))[w.length - 1]? = some (stepR m (aftI m 0 (wordN t n)) (i : Int)).2 := by
  rw [hrs, List.getElem?_append_right (by rw [runR_len, castW, List.length_map]; omega), runR_len, castW, List.length_map, hw0]; simp
 rw [hre] at hRun
 generalize runR m 0 (castW w) = R at hRun hrs hrl hlast
 generalize (stepR m (aftI m 0 (wordN t n)) (i : Int)).2 = y at hok hlast hrs
 refine EvC.mergeC (α := Unit) (fun _ => ⟨[(2, .ia m.cells), (3, .ia t.cells), (5, .sl false (L.map wA) .full), (6, .sc (.int .i64 n)), (7, .sc (.int .i64 i)), (8, .ia [.sc (.int .i64 e1), .sc (.int .i64 e2)]), (9, .sl false (R.map intC) .unk)], [], [], 0⟩) (fun _ => True) ?_ ?_
 ·rw [Mach.cells] at hRun
  have hgL : (L.map wA)[n]? = some (wA (wordN t n)) := by rw [hL, List.map_map, List.getElem?_map, List.getElem?_range hnN]; rfl
  by_cases hx0 : wordN t n = []
  ·rw [hx0] at hgL hw
   have hgL2 : (L.map wA)[n]? = some [.sl true [] .zer] := hgL
   have hw1 : w.map natC = [[.sc (.int .i64 i)]] := by rw [hw]; rfl
   rw [hw1] at hRun
   apply EvC.drw mixed
   ·apply Tr.cons
    ·exact .op rfl (by simp only [go_sem] <;> rfl) (by simp only [go_sem] <;> rfl) rfl (by simp only [go_sem] <;> rfl)
    apply Tr.cons
    ·exact .op rfl (by simp only [go_sem] <;> rfl) (by simp only [go_sem] <;> rfl) rfl (by simp only [go_sem] <;> rfl)
    apply Tr.cons
    ·exact .op rfl (by simp only [go_sem] <;> rfl) (by simp only [go_sem] <;> rfl) rfl (by simp only [go_sem] <;> rfl)
    apply Tr.cons
    ·exact .op rfl (by simp only [go_sem] <;> rfl) (by simp only [go_sem] <;> rfl) rfl (by simp only [go_sem] <;> rfl)
    apply Tr.cons
    ·exact .op rfl (by simp only [go_sem] <;> rfl) (by simp only [go_sem, hnin, hgL2, hLl] <;> rfl) (by simp; try omega) (by simp only [go_sem] <;> rfl)
    apply Tr.cons
    ·exact .op rfl (by simp only [go_sem] <;> rfl) (by simp only [go_sem, hnin, hgL2, hLl] <;> rfl) (by simp; try omega) (by simp only [go_sem] <;> rfl)
    apply Tr.cons
    ·exact .appZ rfl rfl (by simp only [go_sem] <;> rfl) (by simp only [go_sem] <;> rfl) (by simp only [go_sem] <;> rfl) (by simp only [go_sem] <;> rfl) (by simp only [go_sem] <;> rfl) (by simp only [go_sem] <;> rfl) (by simp only [go_sem] <;> rfl)
    apply Tr.run
    ·simp only [go_sem] <;> rfl
    ·simp [room_eq]
    apply Tr.cons
    ·exact .callFz (i := 9) rfl rfl (by simp only [go_sem] <;> rfl) (by simp only [go_sem] <;> rfl) (by simp only [go_sem] <;> rfl) (by simp only [go_sem] <;> rfl) (by simp only [go_sem] <;> rfl) (by simp only [go_sem] <;> rfl) rfl (by simp only [go_sem] <;> rfl) hRun
    apply Tr.done
    ·simp only [go_sem] <;> rfl
    ·simp
   ·kernel_rfl
   exact ⟨rfl, (), trivial, fun c Q h => EvC.gcE [2, 3, 5, 6, 7, 8, 9] [] 0 rfl (by simp only [go_sem, Mach.cells] <;> rfl) h⟩
  have hx0l : (wordN t n).length ≠ 0 := fun h => hx0 (List.length_eq_zero_iff.1 h)
  have hx0e : (wordN t n).isEmpty = false := by cases hq : wordN t n with
   | nil => exact absurd hq hx0
   | cons _ _ => rfl
  have hgo2 : (L.map wA)[n]? = some [.sl false ((wordN t n).map natC) .unk] := by rw [hgL, wA, hx0e, wCp, if_neg hx0]
  have hsn : (wordN t n).map natC ++ [[.sc (.int .i64 i)]] = w.map natC := by rw [hw]; simp [natC]
  have hsl : (wordN t n).length + 1 = w.length := by rw [hw]; simp
  have hy : ∀ a ∈ wordN t n, (natC a).length = 1 := fun _ _ => rfl
  have hr3 : room (wordN t n).length 8 = true := by simp only [room_eq, decide_eq_true_eq]; omega
  have hr4 : room w.length 8 = true := by simp only [room_eq, decide_eq_true_eq]; omega
  apply EvC.drwA mixed
  ·apply Tr.run
   ·simp only [go_sem, hgo2, hnin, hLl, hsn, hsl, List.length_map] <;> rfl
   ·simp; exact ⟨⟨hr3, hy⟩, hr4⟩
   apply Tr.cons
   ·exact .callFz (i := 6) rfl rfl (by simp only [go_sem] <;> rfl) (by simp only [go_sem] <;> rfl) (by simp only [go_sem] <;> rfl) (by simp only [go_sem] <;> rfl) (by simp only [go_sem, List.length_map] <;> rfl) (by simp only [go_sem] <;> rfl) rfl (by simp only [go_sem] <;> rfl) hRun
   apply Tr.done
   ·simp only [go_sem] <;> rfl
   ·simp
  ·kernel_rfl
  exact ⟨rfl, (), trivial, fun c Q h => EvC.gcE [2, 3, 5, 6, 7, 8, 9] [] 0 rfl (by simp only [go_sem, Mach.cells] <;> rfl) h⟩
 intro _ _
 refine EvC.seq (EvC.rg (by simp only [go_sem] <;> rfl) (by simp) ?_)
 refine EvC.mergeC (α := Unit) (fun _ => ⟨[(2, .ia m.cells), (3, .ia t.cells), (5, .sl false (L.map wA) .full), (6, .sc (.int .i64 n)), (7, .sc (.int .i64 i)), (9, .sl false (R.map intC) .unk), (10, .sc (.int .i64 (outT (e1, e2))))], [], [], 0⟩) (fun _ => True) ?_ ?_
 ·by_cases h : e1 = -1
  ·have ho : outT (e1, e2) = -1 := by unfold outT; rw [if_pos h]
   rw [ho]
   refine EvC.seq (EvC.rg (by simp only [go_sem] <;> rfl) (by simp) ?_)
   refine EvC.cond_true (by simp only [go_sem, decide_eq_true h] <;> rfl) ?_
   refine EvC.rg (by simp only [go_sem] <;> rfl) (by simp) ?_
   exact ⟨rfl, (), trivial, fun c Q h => EvC.gcE [2, 3, 5, 6, 7, 9, 10] [] 0 rfl (by simp only [go_sem, Mach.cells] <;> rfl) h⟩
  ·have ho : outT (e1, e2) = e2 := by unfold outT; rw [if_neg h]
   rw [ho]
   refine EvC.seq (EvC.rg (by simp only [go_sem] <;> rfl) (by simp) ?_)
   refine EvC.cond_false (by simp only [go_sem, decide_eq_false h] <;> rfl) ?_
   refine EvC.skip ?_
   exact ⟨rfl, (), trivial, fun c Q h => EvC.gcE [2, 3, 5, 6, 7, 9, 10] [] 0 rfl (by simp only [go_sem, Mach.cells] <;> rfl) h⟩
 intro _ _
 generalize outT (e1, e2) = o at hok
 have hlt : ((w.length : Int) - 1).toNat = w.length - 1 := by omega
 have hlast2 : (R.map intC)[w.length - 1]? = some (intC y) := by rw [List.getElem?_map, hlast]; rfl
 have hRl : (R.map intC).length = w.length := by rw [List.length_map, hrl]
 refine EvC.seq (EvC.rg (by simp only [go_sem, hRl, hlt, hlast2, intC] <;> rfl) (by simp; exact ⟨inI64_of (by omega) (by omega), by omega⟩) ?_)
 by_cases hyo : y = o
 rotate_left
 ·rw [decide_eq_false hyo] at hok
  have hB : B = false := by
   cases B with
   | false => rfl
   | true => have := hiff.1 rfl n i (by omega) hi; rw [hok] at this; cases this
  subst hB
  refine EvC.cond_true (by simp only [go_sem, decide_eq_false hyo] <;> rfl) ?_
  refine EvC.seq (EvC.rg (by simp only [go_sem] <;> rfl) (by simp) ?_)
  refine EvC.ret ⟨.inl rfl, _, (by simp only [go_sem] <;> rfl), ?_, rfl⟩
  simp only [go_sem]
 rw [decide_eq_true hyo] at hok
 refine EvC.cond_false (by simp only [go_sem, decide_eq_true hyo] <;> rfl) ?_
 refine EvC.skip ?_
 refine EvC.rg (by simp only [go_sem] <;> rfl) (by exact inI64_of (by omega) (by omega)) ?_
 refine ⟨[], i + 1, rfl, (by simp only [go_sem, Mach.cells, Int.natCast_add, Int.natCast_one] <;> rfl), ⟨by omega, fun j hj => ?_⟩, by omega⟩
 by_cases e : j = i
 ·subst e; rw [hok]; rfl
 ·exact g2 j (by omega)
end Go.Avl
namespace Go.Avl
open Go Go.Proofs.Try
set_option maxRecDepth 10000
set_option linter.unusedSimpArgs false
set_option maxHeartbeats 4000000 in
theorem check34_is (m : Mach) (hr : ∀ r ∈ m.rows, r.2.length < 1000000) : PureIs prog 34 [.ag m.cells] (.sc (.int .i64 (checkM m))) := by
 refine PureIs.of (nv := 6) (hid := [19, 33, 38, 49, 53, 71, 94]) func34 rfl (by kernel_rfl) (by simp [ntmps34]) fun _ => ?_
 rw [ntmps34, results34]
 refine EvC.seq (EvC.rg (by simp only [go_sem, Mach.cells] <;> rfl) (by simp) ?_)
 refine EvC.frzB 0 (by simp only [go_sem] <;> rfl) ?_
 refine EvC.seq ?_
 apply EvC.seq
 apply EvC.trd
 ·simp only [go_sem] <;> rfl
 ·simp
 refine EvC.cond (by simp only [go_sem] <;> rfl) (fun hc => ?_) (fun hc => ?_)
 ·have h : 16 < m.ins ∨ 16 < m.outs ∨ 64 < (m.rows.length : Int) := by
    by_cases h1 : 16 < m.ins <;> by_cases h2 : 16 < m.outs <;> simp_all
  refine EvC.seq (EvC.rg (by simp only [go_sem] <;> rfl) (by simp) ?_)
  refine EvC.ret ⟨.inl rfl, _, (by simp only [go_sem] <;> rfl), ?_, rfl⟩
  simp only [go_sem]
  rw [checkM, if_pos h]
 have hn : ¬ (16 < m.ins ∨ 16 < m.outs ∨ 64 < (m.rows.length : Int)) := by
  by_cases h1 : 16 < m.ins <;> by_cases h2 : 16 < m.outs <;> simp_all
 clear hc
 refine EvC.skip ?_
 refine EvC.seq ?_
 apply EvC.seq
 apply EvC.trd
 ·simp only [go_sem] <;> rfl
 ·simp
 refine EvC.cond (by simp only [go_sem] <;> rfl) (fun hc => ?_) (fun hc => ?_)
 ·have h : m.ins < 1 ∨ m.outs < 1 ∨ (m.rows.length : Int) < 1 := by
    by_cases h1 : m.ins < 1 <;> by_cases h2 : m.outs < 1 <;> simp_all
  refine EvC.seq (EvC.rg (by simp only [go_sem] <;> rfl) (by simp) ?_)
  refine EvC.ret ⟨.inl rfl, _, (by simp only [go_sem] <;> rfl), ?_, rfl⟩
  simp only [go_sem]
  rw [checkM, if_neg hn, if_pos h]
 have hn2 : ¬ (m.ins < 1 ∨ m.outs < 1 ∨ (m.rows.length : Int) < 1) := by
  by_cases h1 : m.ins < 1 <;> by_cases h2 : m.outs < 1 <;> simp_all
  have : m.rows.length ≠ 0 := by simpa using hc
  omega
 clear hc
 have hw : checkM m = if m.rows.all (rowOk m) = true then 0 else 1 := by rw [checkM, if_neg hn, if_neg hn2]
 have hlen : (m.rows.length : Int) ≤ 64 := by omega
 refine EvC.skip ?_
 refine EvC.seq ?_
 refine EvC.seq (EvC.rg (by simp only [go_sem] <;> rfl) (by simp) ?_)
 refine EvC.block ?_
 refine EvC.loopS (σ := Nat) (fun i => ⟨[(1, .ia m.cells), (3, .sc (.int .i64 i))], [], [], 0⟩) (fun i => m.rows.length - i) (fun i => i ≤ m.rows.length ∧ m.rows.all (rowOk m) = (m.rows.drop i).all (rowOk m)) [1, 3] 0 ?_ ?_
 ·refine ⟨[], 0, rfl, (by simp only [go_sem, Mach.cells] <;> rfl), Nat.zero_le _, by simp⟩
 rintro i ⟨h1, h2⟩
 refine EvC.seq ?_
 refine EvC.seq (EvC.rg (by simp only [go_sem, Mach.cells] <;> rfl) (by simp) ?_)
 refine EvC.cond (by simp only [go_sem] <;> rfl) (fun hc => ?_) (fun hc => ?_)
 rotate_left
 ·refine EvC.exit ?_
  have hi : ¬ i < m.rows.length := by simpa using hc
  refine EvC.seq (EvC.rg (by simp only [go_sem] <;> rfl) (by simp) ?_)
  refine EvC.ret ⟨.inl rfl, _, (by simp only [go_sem] <;> rfl), ?_, rfl⟩
  simp only [go_sem]
  rw [hw, h2, List.drop_of_length_le (by omega)]; rfl
 have hi : i < m.rows.length := by simpa using hc
 have he : m.rows[i]? = some m.rows[i] := List.getElem?_eq_getElem hi
 have hd : m.rows.drop i = m.rows[i] :: m.rows.drop (i + 1) := List.drop_eq_getElem_cons hi
 generalize m.rows[i] = r at he hd
 rw [hd, List.all_cons] at h2
 refine EvC.skip ?_
 refine EvC.seq ?_
 refine EvC.block ?_
 refine EvC.seq ?_
 apply EvC.seq
 apply EvC.drd mixed
 ·simp only [go_sem, Mach.cells, he, rowC] <;> rfl
 ·simp
 ·kernel_rfl
 refine EvC.cond (by simp only [go_sem] <;> rfl) (fun hc => ?_) (fun hc => ?_)
 ·have hl : ¬ (r.2.length : Int) = m.ins := by simpa using hc
  refine EvC.seq (EvC.rg (by simp only [go_sem] <;> rfl) (by simp) ?_)
  refine EvC.ret ⟨.inl rfl, _, (by simp only [go_sem] <;> rfl), ?_, rfl⟩
  simp only [go_sem]
  have : rowOk m r = false := by simp [rowOk, hl]
  rw [hw, h2, this]; rfl
 have hl : (r.2.length : Int) = m.ins := by simpa using hc
 have hro : rowOk m r = r.2.all fun e => fitsR m.rows.length m.outs e.1 e.2 := by simp [rowOk, hl, List.any_eq_not_all_not]
 refine EvC.skip ?_
 refine EvC.seq (EvC.rg (by simp only [go_sem] <;> rfl) (by simp) ?_)
 refine EvC.block ?_
 refine EvC.loopS (σ := Nat) (fun k => ⟨[(1, .ia m.cells), (3, .sc (.int .i64 i)), (4, .sc (.int .i64 k))], [], [], 0⟩) (fun k => r.2.length - k) (fun k => k ≤ r.2.length ∧ rowOk m r = (r.2.drop k).all fun e => fitsR m.rows.length m.outs e.1 e.2) [1, 3, 4] 0 ?_ ?_
 ·refine ⟨[], 0, rfl, (by simp only [go_sem, Mach.cells] <;> rfl), Nat.zero_le _, by simp [hro]⟩
 rintro k ⟨k1, k2⟩
 refine EvC.seq ?_
 refine EvC.seq (EvC.rg (by simp only [go_sem, Mach.cells] <;> rfl) (by simp) ?_)
 refine EvC.cond (by simp only [go_sem] <;> rfl) (fun hc => ?_) (fun hc => ?_)
 rotate_left
 ·refine EvC.exit ?_
  have hk : ¬ k < r.2.length := by
   have : ¬ (k : Int) < m.ins := by simpa using hc
   omega
  rw [List.drop_of_length_le (by omega)] at k2
  refine EvC.rg (by simp only [go_sem] <;> rfl) (by exact inI64_of (by omega) (by omega)) ?_
  exact ⟨[], i + 1, rfl, (by simp only [go_sem, Mach.cells] <;> rfl), ⟨by omega, by rw [h2, k2]; rfl⟩, by omega⟩
 have hk : k < r.2.length := by
  have : (k : Int) < m.ins := by simpa using hc
  omega
 have hke : r.2[k]? = some r.2[k] := List.getElem?_eq_getElem hk
 have hkd : r.2.drop k = r.2[k] :: r.2.drop (k + 1) := List.drop_eq_getElem_cons hk
 generalize r.2[k] = e at hke hkd
 rw [hkd, List.all_cons] at k2
 refine EvC.skip ?_
 refine EvC.seq ?_
 refine EvC.block ?_
 refine EvC.seq (EvC.rg (by simp only [go_sem, Mach.cells, he, rowC, hke, edgeC] <;> rfl) (by simp) ?_)
 refine EvC.seq ?_
 apply EvC.seq
 apply EvC.trd
 ·simp only [go_sem] <;> rfl
 ·simp
 refine EvC.cond (by simp only [go_sem] <;> rfl) (fun hc => ?_) (fun hc => ?_)
 ·refine EvC.exit ?_
  have hu : e.1 = -1 ∧ e.2 = -1 := by by_cases h : e.1 = -1 <;> simp_all
  have hf : fitsR m.rows.length m.outs e.1 e.2 = true := by simp [fitsR, hu.1, hu.2]
  refine EvC.rg (by simp only [go_sem] <;> rfl) (by exact inI64_of (by omega) (by omega)) ?_
  exact ⟨[], k + 1, rfl, (by simp only [go_sem, Mach.cells] <;> rfl), ⟨by omega, by rw [k2, hf]; rfl⟩, by omega⟩
 have hu : ¬ (e.1 = -1 ∧ e.2 = -1) := by by_cases h : e.1 = -1 <;> simp_all
 clear hc
 refine EvC.skip ?_
 apply EvC.seq
 apply EvC.trd
 ·simp only [go_sem, Mach.cells] <;> rfl
 ·simp
 have hfe : fitsR m.rows.length m.outs e.1 e.2 = (decide (0 ≤ e.1) && decide (e.1 < m.rows.length) && decide (0 ≤ e.2) && decide (e.2 < m.outs)) := by
  unfold fitsR
  by_cases h : e.1 = -1
  ·have : ¬ e.2 = -1 := fun h2 => hu ⟨h, h2⟩
   simp [this]
  ·simp [h]
 refine EvC.cond (by simp only [go_sem] <;> rfl) (fun hc => ?_) (fun hc => ?_)
 ·have hf : fitsR m.rows.length m.outs e.1 e.2 = false := by
    rw [hfe]
    by_cases h1 : e.1 < 0 <;> by_cases h2 : (m.rows.length : Int) ≤ e.1 <;> by_cases h3 : e.2 < 0 <;> by_cases h4 : m.outs ≤ e.2 <;> simp_all <;> omega
  refine EvC.seq (EvC.rg (by simp only [go_sem] <;> rfl) (by simp) ?_)
  refine EvC.ret ⟨.inl rfl, _, (by simp only [go_sem] <;> rfl), ?_, rfl⟩
  simp only [go_sem]
  rw [hw, h2, k2, hf]; rfl
 have hf : fitsR m.rows.length m.outs e.1 e.2 = true := by
  rw [hfe]
  by_cases h1 : e.1 < 0 <;> by_cases h2 : (m.rows.length : Int) ≤ e.1 <;> by_cases h3 : e.2 < 0 <;> by_cases h4 : m.outs ≤ e.2 <;> simp_all <;> omega
 refine EvC.skip ?_
 refine EvC.rg (by simp only [go_sem] <;> rfl) (by exact inI64_of (by omega) (by omega)) ?_
 exact ⟨[], k + 1, rfl, (by simp only [go_sem, Mach.cells] <;> rfl), ⟨by omega, by rw [k2, hf]; rfl⟩, by omega⟩
end Go.Avl
namespace Go.Avl
open Go Go.Proofs.Try
set_option maxRecDepth 10000
set_option linter.unusedSimpArgs false
structure WG (t : Mach) (m0 r n i : Nat) (s : WS) : Prop where
 ok : s.Ok t.rows.length
 zero : s.has 0 = true ∧ s.wd 0 = []
 par : ∀ m, m < t.rows.length → m ≠ 0 → s.has m = true → ∃ p j : Nat, p < t.rows.length ∧ (j : Int) < t.ins ∧ (eT t p j).1 = (m : Int) ∧ s.has p = true ∧ s.wd m = s.wd p ++ [j]
 fin : ∀ q j : Nat, q < t.rows.length → (j : Int) < t.ins → s.has q = true → ((s.wd q).length < r ∨ (s.wd q).length = r ∧ (q < n ∨ q = n ∧ j < i)) → (eT t q j).1 = -1 ∨ (s.has (eT t q j).1.toNat = true ∧ s.wd (eT t q j).1.toNat = s.wd q ++ [j])
 len : ∀ m, m < t.rows.length → s.has m = true → (s.wd m).length ≤ r + 1
 ge : m0 ≤ s.many
 new : s.many = m0 → ∀ m, m < t.rows.length → s.has m = true → (s.wd m).length ≤ r
theorem WG.on {t : Mach} {m0 r n i n' i' : Nat} {s : WS} (h : WG t m0 r n i s) (e : ∀ q j : Nat, q < t.rows.length → (j : Int) < t.ins → s.has q = true → (s.wd q).length = r → (q < n' ∨ q = n' ∧ j < i') → (q < n ∨ q = n ∧ j < i) ∨ (eT t q j).1 = -1) : WG t m0 r n' i' s :=
 ⟨h.ok, h.zero, h.par, fun q j hq hj hh hl => by
  rcases hl with hl | ⟨hl, hl2⟩
  ·exact h.fin q j hq hj hh (.inl hl)
  ·rcases e q j hq hj hh hl hl2 with h1 | h1
   ·exact h.fin q j hq hj hh (.inr ⟨hl, h1⟩)
   ·exact .inl h1, h.len, h.ge, h.new⟩
theorem WG.wE {t : Mach} (v : TG t) {m0 r n : Nat} (hr : r < t.rows.length) (hn : n < t.rows.length) : ∀ (d i : Nat) (s s' : WS), d + i = t.ins.toNat → WG t m0 r n i s → wE t r n d i s = some s' → WG t m0 r (n + 1) 0 s'
 | 0, i, s, s', hd, h, hs => by
   rw [Go.Avl.wE] at hs; cases hs
   exact h.on fun q j _ hj _ _ hx => .inl (by omega)
 | d + 1, i, s, s', hd, h, hs => by
   rw [Go.Avl.wE] at hs
   have hii : (i : Int) < t.ins := by have := v.ins; omega
   by_cases hc : s.has n = true ∧ (s.wd n).length = r
   rotate_left
   ·rw [if_neg hc] at hs
    cases hs
    refine h.on fun q j _ hj hh hl hx => .inl ?_
    by_cases e : q = n
    ·subst e; exact absurd ⟨hh, hl⟩ hc
    ·omega
   rw [if_pos hc] at hs
   obtain ⟨hc1, hc2⟩ := hc
   obtain ⟨_, _, _, _, eP⟩ := v.get hn hii
   by_cases h1 : (eT t n i).1 = -1
   ·rw [if_pos h1] at hs
    refine WG.wE v hr hn d (i + 1) s s' (by omega) (h.on fun q j _ hj _ _ hx => ?_) hs
    by_cases e : q = n ∧ j = i
    ·rw [e.1, e.2]; exact .inr h1
    ·exact .inl (by omega)
   ·rw [if_neg h1] at hs
    obtain ⟨k, hk⟩ : ∃ k : Nat, (eT t n i).1 = (k : Int) := ⟨(eT t n i).1.toNat, by omega⟩
    rw [hk, Int.toNat_natCast] at hs
    have hkN : k < t.rows.length := by omega
    cases hkh : s.has k with
    | true => rw [hkh, if_pos rfl] at hs; cases hs
    | false =>
    rw [hkh, if_neg (by simp)] at hs
    have hne : ∀ m, s.has m = true → m ≠ k := fun m hm e => by rw [e, hkh] at hm; cases hm
    have hH : ∀ m, (s.put k n i).has m = true ↔ m = k ∨ s.has m = true := fun m => by
     rw [WS.has_put h.ok hkN]
     by_cases e : m = k
     ·rw [if_pos e]; simp [e]
     ·rw [if_neg e]; simp [e]
    have hW : ∀ m, s.has m = true → (s.put k n i).wd m = s.wd m := fun m hm => by rw [WS.wd_put h.ok hkN, if_neg (hne m hm)]
    have hWk : (s.put k n i).wd k = s.wd n ++ [i] := by rw [WS.wd_put h.ok hkN, if_pos rfl]
    refine WG.wE v hr hn d (i + 1) _ s' (by omega) ⟨h.ok.put hkN hkh (by omega), ?_, fun m hm hm0 hh => ?_, fun q j hq hj hh hl => ?_, fun m hm hh => ?_, by have := h.ge; simp only [WS.put]; omega, fun hm0 => by have := h.ge; simp only [WS.put] at hm0; omega⟩ hs
    ·exact ⟨(hH 0).2 (.inr h.zero.1), by rw [hW 0 h.zero.1]; exact h.zero.2⟩
    ·rcases (hH m).1 hh with e | hh'
     ·subst e
      exact ⟨n, i, hn, hii, hk, (hH n).2 (.inr hc1), by rw [hWk, hW n hc1]⟩
     ·obtain ⟨p, j, h1, h2, h3, h4, h5⟩ := h.par m hm hm0 hh'
      exact ⟨p, j, h1, h2, h3, (hH p).2 (.inr h4), by rw [hW m hh', hW p h4, h5]⟩
    ·rcases (hH q).1 hh with e | hh'
     ·subst e
      rw [hWk] at hl
      simp only [List.length_append, List.length_singleton] at hl
      omega
     ·rw [hW q hh'] at hl ⊢
      by_cases e : q = n ∧ j = i
      ·rw [e.1, e.2, hk, Int.toNat_natCast]
       exact .inr ⟨(hH k).2 (.inl rfl), hWk⟩
      ·rcases h.fin q j hq hj hh' (by omega) with h6 | ⟨h6, h7⟩
       ·exact .inl h6
       ·exact .inr ⟨(hH _).2 (.inr h6), by rw [hW _ h6, h7]⟩
    ·rcases (hH m).1 hh with e | hh'
     ·subst e; rw [hWk]; simp; omega
     ·rw [hW m hh']; exact h.len m hm hh'
theorem WG.wN {t : Mach} (v : TG t) {m0 r : Nat} (hr : r < t.rows.length) : ∀ (d n : Nat) (s s' : WS), d + n = t.rows.length → WG t m0 r n 0 s → wN t r d n s = some s' → WG t m0 r t.rows.length 0 s'
 | 0, n, s, s', hd, h, hs => by
   rw [Go.Avl.wN] at hs; cases hs
   rw [← hd, Nat.zero_add]; rw [← hd, Nat.zero_add] at *; exact h
 | d + 1, n, s, s', hd, h, hs => by
   rw [Go.Avl.wN] at hs
   cases h1 : Go.Avl.wE t r n t.ins.toNat 0 s with
   | none => rw [h1] at hs; cases hs
   | some s1 =>
     rw [h1] at hs
     exact WG.wN v hr d (n + 1) s1 s' (by omega) (WG.wE v hr (by omega) t.ins.toNat 0 s s1 (by omega) h h1) hs
structure WF (t : Mach) (s : WS) : Prop where
 ok : s.Ok t.rows.length
 zero : s.has 0 = true ∧ s.wd 0 = []
 par : ∀ m, m < t.rows.length → m ≠ 0 → s.has m = true → ∃ p j : Nat, p < t.rows.length ∧ (j : Int) < t.ins ∧ (eT t p j).1 = (m : Int) ∧ s.has p = true ∧ s.wd m = s.wd p ++ [j]
 fin : ∀ q j : Nat, q < t.rows.length → (j : Int) < t.ins → s.has q = true → (eT t q j).1 = -1 ∨ (s.has (eT t q j).1.toNat = true ∧ s.wd (eT t q j).1.toNat = s.wd q ++ [j])
theorem WG.wR {t : Mach} (v : TG t) : ∀ (d r : Nat) (s s' : WS), d + r = t.rows.length → r + 1 ≤ s.many → WG t s.many r 0 0 s → (∀ m, m < t.rows.length → s.has m = true → (s.wd m).length ≤ r) → wR t d r s = some s' → WF t s'
 | 0, r, s, s', hd, hm, h, _, hs => by
   have := h.ok.le_many
   omega
 | d + 1, r, s, s', hd, hm, h, hl, hs => by
   rw [Go.Avl.wR] at hs
   cases h1 : Go.Avl.wN t r t.rows.length 0 s with
   | none => rw [h1] at hs; cases hs
   | some s1 =>
     rw [h1] at hs
     simp only at hs
     have h2 := WG.wN v (by omega) t.rows.length 0 s s1 (by omega) h h1
     by_cases hmm : s1.many = s.many
     ·rw [if_pos hmm] at hs
      cases hs
      refine ⟨h2.ok, h2.zero, h2.par, fun q j hq hj hh => h2.fin q j hq hj hh ?_⟩
      have := h2.new hmm q hq hh
      omega
     ·rw [if_neg hmm] at hs
      have hge := h2.ge
      refine WG.wR v d (r + 1) s1 s' (by omega) (by omega) ⟨h2.ok, h2.zero, h2.par, fun q j hq hj hh hx => h2.fin q j hq hj hh (by omega), fun m hm hh => by have := h2.len m hm hh; omega, Nat.le_refl _, fun _ m hm hh => h2.len m hm hh⟩ (fun m hm hh => h2.len m hm hh) hs
structure WL (t : Mach) (l : List (List Nat)) : Prop where
 len : l.length = t.rows.length
 zero : l[0]? = some []
 edge : ∀ n i m : Nat, n < t.rows.length → (i : Int) < t.ins → (eT t n i).1 = (m : Int) → ∃ x, l[n]? = some x ∧ l[m]? = some (x ++ [i])
 par : ∀ m, 1 ≤ m → m < t.rows.length → ∃ p j : Nat, p < t.rows.length ∧ (j : Int) < t.ins ∧ (eT t p j).1 = (m : Int)
theorem wordsR_some {t : Mach} (v : TG t) {l : List (List Nat)} (h : wordsR t = some l) : WL t l := by
 have hrw := v.rows
 have hok := ws0_ok hrw.1
 have hhas : ∀ m, m < t.rows.length → (ws0 t.rows.length).has m = decide (m = 0) := fun m hm => by
  unfold WS.has ws0
  simp only [List.getElem?_set, List.length_replicate]
  by_cases e : m = 0
  ·subst e; rw [if_pos rfl, if_pos hm]; rfl
  ·rw [if_neg (fun h => e h.symm), List.getElem?_replicate, if_pos hm, decide_eq_false e]; rfl
 have hwd : ∀ m, (ws0 t.rows.length).wd m = [] := fun m => by
  unfold WS.wd ws0
  simp only [List.getElem?_replicate]
  split <;> rfl
 unfold wordsR at h
 cases h1 : wR t t.rows.length 0 (ws0 t.rows.length) with
 | none => rw [h1] at h; cases h
 | some s =>
   rw [h1] at h
   simp only at h
   split at h
   ·cases h
   ·rename_i hm
    cases h
    have f := WG.wR v t.rows.length 0 (ws0 t.rows.length) s (by omega) (Nat.le_refl _) ⟨hok, ⟨by rw [hhas 0 (by omega)]; rfl, hwd 0⟩, fun m hm hm0 hh => by
     rw [hhas m hm, decide_eq_true_eq] at hh
     exact absurd hh hm0, fun q j hq hj hh hx => by
     rw [hwd] at hx
     simp at hx, fun m _ _ => by rw [hwd]; simp, Nat.le_refl _, fun _ m _ _ => by rw [hwd]; simp⟩ (fun m _ _ => by rw [hwd]; simp) h1
    have hall : ∀ m, m < t.rows.length → s.has m = true := fun m hmN => by
     have h2 := f.ok.many
     have h3 := f.ok.le_many
     have h4 : s.seen.countP (fun b => b) = s.seen.length := by rw [f.ok.seen]; omega
     rw [List.countP_eq_length] at h4
     have h5 := f.ok.has_get hmN
     exact h4 _ (List.mem_of_getElem? h5)
    refine ⟨f.ok.out, by rw [f.ok.wd_get (by omega), f.zero.2], fun n i m hn hi he => ?_, fun m h0 hmN => ?_⟩
    ·refine ⟨s.wd n, f.ok.wd_get hn, ?_⟩
     obtain ⟨_, _, _, _, eP⟩ := v.get hn hi
     rcases f.fin n i hn hi (hall n hn) with h6 | ⟨h6, h7⟩
     ·omega
     ·rw [he, Int.toNat_natCast] at h7
      rw [f.ok.wd_get (by omega), h7]
    ·obtain ⟨p, j, k1, k2, k3, _⟩ := f.par m hmN (by omega) (hall m hmN)
     exact ⟨p, j, k1, k2, k3⟩
end Go.Avl
namespace Go.Avl
open Go Go.Proofs.Try
set_option maxRecDepth 10000
set_option linter.unusedSimpArgs false
def edgeOkT (N : Nat) (outs : Int) (e : Int × Int) : Prop := (1 ≤ e.1 ∧ e.1 < N ∧ 0 ≤ e.2 ∧ e.2 < outs) ∨ (e.1 = -1 ∧ (e.2 = -1 ∨ e.2 = -2))
instance (N : Nat) (outs : Int) (e : Int × Int) : Decidable (edgeOkT N outs e) := by unfold edgeOkT; infer_instance
structure RowsT (t : Mach) : Prop where
 ins : 1 ≤ t.ins ∧ t.ins ≤ 16
 outs : 1 ≤ t.outs ∧ t.outs ≤ 16
 rows : 1 ≤ t.rows.length ∧ t.rows.length ≤ 65537
 row : ∀ (i : Nat) (r : Row), t.rows[i]? = some r → (r.2.length : Int) = t.ins ∧ ∀ e ∈ r.2, edgeOkT t.rows.length t.outs e
theorem RowsT.tg {t : Mach} (h : RowsT t) : TG t := ⟨h.ins, h.rows, fun i r hr => ⟨(h.row i r hr).1, fun e he => by
 rcases (h.row i r hr).2 e he with h1 | h1
 ·exact .inr ⟨h1.1, h1.2.1⟩
 ·exact .inl h1.1⟩⟩
theorem TV.rowsT {t : Mach} (v : TV t) : RowsT t := ⟨v.ins, v.outs, v.rows, fun i r hr => ⟨(v.row i r hr).1, fun e he => by
 rcases (v.row i r hr).2 e he with h1 | h1
 ·exact .inr h1
 ·exact .inl ⟨by omega, h1.2⟩⟩⟩
def tgt (e : Int × Int) : Option Nat := if e.1 ≠ -1 then some e.1.toNat else none
def kidsT (t : Mach) (n : Nat) : List Nat := (List.range t.ins.toNat).filterMap fun i => tgt (eT t n i)
theorem mem_kidsT {t : Mach} {n m : Nat} : m ∈ kidsT t n ↔ ∃ i : Nat, i < t.ins.toNat ∧ (eT t n i).1 ≠ -1 ∧ (eT t n i).1.toNat = m := by
 unfold kidsT tgt
 simp only [List.mem_filterMap, List.mem_range]
 constructor
 ·rintro ⟨i, hi, h⟩
  split at h
  ·rename_i hne
   exact ⟨i, hi, hne, Option.some.inj h⟩
  ·cases h
 ·rintro ⟨i, hi, hne, h⟩
  exact ⟨i, hi, by rw [if_pos hne, h]⟩
theorem row_kidsT {t : Mach} (h : RowsT t) {n : Nat} {r : Row} (hr : t.rows[n]? = some r) : r.2.filterMap tgt = kidsT t n := by
 have hl := (h.row n r hr).1
 have e : r.2 = (List.range t.ins.toNat).map (eT t n) := by
  apply List.ext_getElem?
  intro i
  by_cases hi : i < t.ins.toNat
  ·rw [List.getElem?_map, List.getElem?_range hi, Option.map_some]
   have hi' : i < r.2.length := by omega
   rw [eT, hr]
   simp only [Option.map_some, Option.getD_some]
   rw [List.getElem?_eq_getElem hi']; rfl
  ·rw [List.getElem?_eq_none (by omega), List.getElem?_eq_none (by simp; omega)]
 unfold kidsT
 rw [e, List.filterMap_map]; rfl
theorem rowT_tgt {N : Nat} {outs : Int} : ∀ (es : List (Int × Int)) (nx b : Nat), (∀ e ∈ es, edgeOkT N outs e) → es.filterMap tgt = List.range' nx b → rowT outs es nx = some ((nx + b : Nat) : Int)
 | [], nx, b, _, h => by
   have : b = 0 := by have := congrArg List.length h; simpa using this.symm
   subst this; rfl
 | e :: es, nx, b, he, h => by
   have h1 := he e List.mem_cons_self
   rw [rowT]
   by_cases hc : e.1 = -1
   ·have hx : tgt e = none := by unfold tgt; rw [if_neg (fun h => h hc)]
    rw [List.filterMap_cons, hx] at h
    rw [if_pos]
    ·exact rowT_tgt es nx b (fun e he' => he e (List.mem_cons_of_mem _ he')) h
    ·rcases h1 with h1 | h1
     ·omega
     ·exact h1
   ·have hx : tgt e = some e.1.toNat := by unfold tgt; rw [if_pos hc]
    rw [List.filterMap_cons, hx] at h
    simp only at h
    cases b with
    | zero => simp at h
    | succ b =>
      rw [List.range'_succ] at h
      simp only [List.cons.injEq] at h
      rw [if_neg (fun h => hc h.1), if_pos]
      ·have := rowT_tgt es (nx + 1) b (fun e he' => he e (List.mem_cons_of_mem _ he')) h.2
       rw [show ((nx : Int) + 1) = ((nx + 1 : Nat) : Int) by omega, this]
       congr 1; omega
      ·rcases h1 with h1 | h1
       ·exact ⟨by omega, h1.2.2⟩
       ·exact absurd h1.1 hc
theorem range'_split : ∀ {A B : List Nat} {s n : Nat}, A ++ B = List.range' s n → A = List.range' s A.length ∧ B = List.range' (s + A.length) (n - A.length)
 | [], B, s, n, h => by simpa using h
 | a :: A, B, s, 0, h => by simp at h
 | a :: A, B, s, n + 1, h => by
   rw [List.range'_succ, List.cons_append] at h
   simp only [List.cons.injEq] at h
   obtain ⟨h1, h2⟩ := range'_split h.2
   refine ⟨?_, ?_⟩
   ·rw [List.length_cons, List.range'_succ, ← h1, h.1]
   ·rw [List.length_cons, h2]; congr 1 <;> omega
theorem rowsT_all {t : Mach} (h : RowsT t) (hall : (List.range t.rows.length).flatMap (kidsT t) = List.range' 1 (t.rows.length - 1)) (hpar : ∀ m, 1 ≤ m → m < t.rows.length → ∃ p, p < m ∧ m ∈ kidsT t p) : ∀ d k, k + d = t.rows.length →
  rowsT t.ins t.outs (t.rows.drop k) k ((1 + ((List.range k).flatMap (kidsT t)).length : Nat) : Int) = some (t.rows.length : Int)
 | 0, k, hk => by
   rw [List.drop_of_length_le (by omega), rowsT]
   rw [show k = t.rows.length by omega, hall, List.length_range']
   have := h.rows
   congr 1; omega
 | d + 1, k, hk => by
   have hr : t.rows[k]? = some (t.rows[k]'(by omega)) := List.getElem?_eq_getElem (by omega)
   rw [rowsT_drop (by omega) hr]
   generalize t.rows[k]'(by omega) = r at hr
   have hrow := h.row k r hr
   have hsp : (List.range t.rows.length).flatMap (kidsT t) = (List.range k).flatMap (kidsT t) ++ (kidsT t k ++ ((List.range' (k + 1) d).flatMap (kidsT t))) := by
    have : List.range t.rows.length = List.range k ++ (k :: List.range' (k + 1) d) := by
     rw [← hk, List.range_eq_range', List.range_eq_range', ← List.range'_append_1, Nat.zero_add, List.range'_succ]
    rw [this, List.flatMap_append, List.flatMap_cons]
   rw [hall] at hsp
   obtain ⟨h1, h2⟩ := range'_split hsp.symm
   obtain ⟨h3, _⟩ := range'_split h2
   have hnx : ¬ (((1 + ((List.range k).flatMap (kidsT t)).length : Nat) : Int) ≤ (k : Int)) := by
    by_cases h0 : k = 0
    ·subst h0; simp
    ·obtain ⟨p, hp, hm⟩ := hpar k (by omega) (by omega)
     have : k ∈ (List.range k).flatMap (kidsT t) := List.mem_flatMap.2 ⟨p, List.mem_range.2 hp, hm⟩
     rw [h1, List.mem_range'_1] at this
     omega
   rw [if_neg (fun h4 => by
    rcases h4 with h4 | h4
    ·exact h4 hrow.1
    ·exact hnx h4)]
   have hT := rowT_tgt r.2 (1 + ((List.range k).flatMap (kidsT t)).length) (kidsT t k).length hrow.2 (by rw [row_kidsT h hr]; exact h3)
   rw [hT]
   simp only
   have ih := rowsT_all h hall hpar d (k + 1) (by omega)
   rw [List.range_succ, List.flatMap_append, List.length_append] at ih
   simp only [List.flatMap_singleton] at ih
   rw [show ((1 + ((List.range k).flatMap (kidsT t)).length + (kidsT t k).length : Nat) : Int) = ((1 + (((List.range k).flatMap (kidsT t)).length + (kidsT t k).length) : Nat) : Int) by omega]
   exact ih
def SortN (l : List Nat) : Prop := l.Pairwise (· < ·)
theorem SortN.eq : ∀ {l r : List Nat}, SortN l → SortN r → (∀ x, x ∈ l ↔ x ∈ r) → l = r
 | [], [], _, _, _ => rfl
 | [], y :: r, _, _, h => by have := (h y).2 List.mem_cons_self; cases this
 | x :: l, [], _, _, h => by have := (h x).1 List.mem_cons_self; cases this
 | x :: l, y :: r, h1, h2, h => by
   obtain ⟨a1, a2⟩ := List.pairwise_cons.1 h1
   obtain ⟨b1, b2⟩ := List.pairwise_cons.1 h2
   have e : x = y := by
    rcases List.mem_cons.1 ((h x).1 List.mem_cons_self) with e | e
    ·exact e
    ·rcases List.mem_cons.1 ((h y).2 List.mem_cons_self) with e2 | e2
     ·exact e2.symm
     ·have := b1 x e; have := a1 y e2; omega
   subst e
   rw [SortN.eq a2 b2 fun z => ⟨fun hz => by
    rcases List.mem_cons.1 ((h z).1 (List.mem_cons_of_mem _ hz)) with e | e
    ·subst e; exact absurd (a1 z hz) (Nat.lt_irrefl _)
    ·exact e, fun hz => by
    rcases List.mem_cons.1 ((h z).2 (List.mem_cons_of_mem _ hz)) with e | e
    ·subst e; exact absurd (b1 z hz) (Nat.lt_irrefl _)
    ·exact e⟩]
def wAt (l : List (List Nat)) (n : Nat) : List Int := castW ((l[n]?).getD [])
def AscL (l : List (List Nat)) : Prop := ∀ n, 1 ≤ n → n < l.length → cmpW (wAt l (n - 1)) (wAt l n) < 0
theorem AscL.lt {l : List (List Nat)} (h : AscL l) : ∀ (d m : Nat), m + d + 1 < l.length → cmpW (wAt l m) (wAt l (m + d + 1)) < 0
 | 0, m, hm => by have := h (m + 1) (by omega) (by omega); exact this
 | d + 1, m, hm => by
   have h1 := AscL.lt h d m (by omega)
   have h2 := h (m + (d + 1) + 1) (by omega) (by omega)
   exact cmpW_trans h1 h2
theorem AscL.iff {l : List (List Nat)} (h : AscL l) {m n : Nat} (hm : m < l.length) (hn : n < l.length) : cmpW (wAt l m) (wAt l n) < 0 ↔ m < n := by
 constructor
 ·intro hc
  refine Nat.lt_of_not_le fun hle => ?_
  by_cases e : m = n
  ·subst e; exact cmpW_irr _ hc
  ·have := AscL.lt h (m - n - 1) n (by omega)
   rw [show n + (m - n - 1) + 1 = m by omega] at this
   exact cmpW_irr _ (cmpW_trans this hc)
 ·intro hlt
  have := AscL.lt h (n - m - 1) m (by omega)
  rwa [show m + (n - m - 1) + 1 = n by omega] at this
theorem wl_check {t : Mach} (h : RowsT t) {l : List (List Nat)} (w : WL t l) (asc : AscL l) : checkT t = 0 := by
 have hrw := h.rows
 have hw : ∀ n i m : Nat, n < t.rows.length → (i : Int) < t.ins → (eT t n i).1 = (m : Int) → wAt l m = wAt l n ++ [(i : Int)] := fun n i m hn hi he => by
  obtain ⟨x, h1, h2⟩ := w.edge n i m hn hi he
  unfold wAt
  rw [h1, h2]; simp [castW]
 have hto : ∀ n i : Nat, n < t.rows.length → i < t.ins.toNat → (eT t n i).1 ≠ -1 → ∃ m : Nat, (eT t n i).1 = (m : Int) ∧ 1 ≤ m ∧ m < t.rows.length := fun n i hn hi hne => by
  obtain ⟨_, _, _, _, e⟩ := h.tg.get hn (i := i) (by omega)
  exact ⟨(eT t n i).1.toNat, by omega, by omega, by omega⟩
 have hkk : ∀ n, n < t.rows.length → SortN (kidsT t n) := fun n hn => by
  unfold SortN kidsT
  rw [List.pairwise_filterMap]
  refine List.Pairwise.imp_of_mem ?_ (List.pairwise_lt_range (n := t.ins.toNat))
  intro a b ha hb hab x hx y hy
  have ha' := List.mem_range.1 ha
  have hb' := List.mem_range.1 hb
  unfold tgt at hx hy
  split at hx
  ·rename_i h1
   split at hy
   ·rename_i h2
    obtain ⟨m1, e1, _, e3⟩ := hto n a hn ha' h1
    obtain ⟨m2, f1, _, f3⟩ := hto n b hn hb' h2
    have w1 := hw n a m1 hn (by omega) e1
    have w2 := hw n b m2 hn (by omega) f1
    have hx : m1 = x := by have := Option.some.inj hx; omega
    have hy : m2 = y := by have := Option.some.inj hy; omega
    subst hx hy
    rw [← asc.iff (by rw [w.len]; exact e3) (by rw [w.len]; exact f3), w1, w2]
    exact cmpW_snoc (by omega)
   ·cases hy
  ·cases hx
 have hflat : ∀ ns : List Nat, ns.Pairwise (· < ·) → (∀ n ∈ ns, n < t.rows.length) → SortN (ns.flatMap (kidsT t)) := by
  intro ns
  induction ns with
  | nil => intro _ _; simp [SortN]
  | cons n ns ih =>
    intro hp hns
    obtain ⟨p1, p2⟩ := List.pairwise_cons.1 hp
    have hn := hns n List.mem_cons_self
    rw [List.flatMap_cons]
    refine List.pairwise_append.2 ⟨hkk n hn, ih p2 fun k hk => hns k (List.mem_cons_of_mem _ hk), fun x hx y hy => ?_⟩
    obtain ⟨n', hn', hy⟩ := List.mem_flatMap.1 hy
    have hn'N := hns n' (List.mem_cons_of_mem _ hn')
    obtain ⟨a, ha', h1, rfl⟩ := mem_kidsT.1 hx
    obtain ⟨b, hb', h2, rfl⟩ := mem_kidsT.1 hy
    obtain ⟨m1, e1, _, e3⟩ := hto n a hn ha' h1
    obtain ⟨m2, f1, _, f3⟩ := hto n' b hn'N hb' h2
    have w1 := hw n a m1 hn (by omega) e1
    have w2 := hw n' b m2 hn'N (by omega) f1
    rw [e1, f1, Int.toNat_natCast, Int.toNat_natCast, ← asc.iff (by rw [w.len]; exact e3) (by rw [w.len]; exact f3), w1, w2]
    exact cmpW_app ((asc.iff (by rw [w.len]; exact hn) (by rw [w.len]; exact hn'N)).2 (p1 n' hn'))
 have hpar : ∀ m, 1 ≤ m → m < t.rows.length → ∃ p, p < m ∧ m ∈ kidsT t p := fun m h0 hm => by
  obtain ⟨p, j, k1, k2, k3⟩ := w.par m h0 hm
  have w1 := hw p j m k1 k2 k3
  refine ⟨p, ?_, mem_kidsT.2 ⟨j, by omega, by omega, by omega⟩⟩
  rw [← asc.iff (by rw [w.len]; exact k1) (by rw [w.len]; exact hm), w1]
  exact cmpW_short (by simp)
 have hall : (List.range t.rows.length).flatMap (kidsT t) = List.range' 1 (t.rows.length - 1) := by
  refine SortN.eq (hflat _ List.pairwise_lt_range fun n hn => List.mem_range.1 hn) List.pairwise_lt_range' fun m => ?_
  rw [List.mem_flatMap, List.mem_range'_1]
  constructor
  ·rintro ⟨n, hn, hm⟩
   obtain ⟨i, hi, h1, rfl⟩ := mem_kidsT.1 hm
   obtain ⟨m1, e1, e2, e3⟩ := hto n i (List.mem_range.1 hn) hi h1
   omega
  ·rintro ⟨h1, h2⟩
   obtain ⟨p, hp, hm⟩ := hpar m h1 (by omega)
   exact ⟨p, List.mem_range.2 (by omega), hm⟩
 have hin := h.ins
 have hou := h.outs
 unfold checkT
 rw [if_neg (by omega), if_neg (by omega)]
 have := rowsT_all h hall hpar t.rows.length 0 (by omega)
 simp only [List.drop_zero, List.range_zero, List.flatMap_nil, List.length_nil, Nat.add_zero] at this
 rw [show ((0 : Nat) : Int) = 0 from rfl, show ((1 : Nat) : Int) = 1 from rfl] at this
 rw [this]
 simp
theorem rowT_lt {outs : Int} : ∀ {r : List (Int × Int)} {nx nx' : Int}, 1 ≤ nx → rowT outs r nx = some nx' → ∀ (j j' : Nat) (e e' : Int × Int), j < j' → r[j]? = some e → r[j']? = some e' → e.1 ≠ -1 → e'.1 ≠ -1 → e.1 < e'.1
 | [], _, _, _, _, j, _, _, _, _, h, _, _, _ => by simp at h
 | y :: r, nx, nx', h0, h, j, j', e, e', hj, h1, h2, h3, h4 => by
   rw [rowT] at h
   obtain ⟨j', rfl⟩ : ∃ k, j' = k + 1 := ⟨j' - 1, by omega⟩
   split at h
   ·rename_i hy
    cases j with
    | zero => simp at h1; subst h1; exact absurd hy.1 h3
    | succ j => exact rowT_lt h0 h j j' e e' (by omega) (by simpa using h1) (by simpa using h2) h3 h4
   ·split at h
    ·rename_i hy
     cases j with
     | zero =>
       simp at h1 h2; subst h1
       rcases rowT_edges h e' (List.mem_of_getElem? h2) with h5 | h5
       ·exact absurd h5.1 h4
       ·omega
     | succ j => exact rowT_lt (by omega) h j j' e e' (by omega) (by simpa using h1) (by simpa using h2) h3 h4
    ·cases h
theorem rowsT_nx {ins outs : Int} : ∀ {rs : List Row} {n nx nx' : Int}, rowsT ins outs rs n nx = some nx' → ∀ (i : Nat) (r : Row), rs[i]? = some r → ∀ e ∈ r.2, e.1 = -1 ∨ nx ≤ e.1
 | [], _, _, _, _, i, r, h => by simp at h
 | y :: rs, n, nx, nx', h, i, r, hr => by
   intro e he
   rw [rowsT] at h
   split at h
   ·cases h
   ·split at h
    ·cases h
    ·rename_i k hk
     have hge := rowT_ge hk
     cases i with
     | zero =>
       simp at hr; subst hr
       rcases rowT_edges hk e he with h1 | h1
       ·exact .inl h1.1
       ·exact .inr h1.1
     | succ i =>
       rcases rowsT_nx h i r (by simpa using hr) e he with h1 | h1
       ·exact .inl h1
       ·exact .inr (by omega)
theorem rowsT_lt {ins outs : Int} : ∀ {rs : List Row} {n nx nx' : Int}, 1 ≤ nx → rowsT ins outs rs n nx = some nx' → ∀ (i i' j j' : Nat) (r r' : Row) (e e' : Int × Int), i < i' ∨ i = i' ∧ j < j' → rs[i]? = some r → rs[i']? = some r' → r.2[j]? = some e → r'.2[j']? = some e' → e.1 ≠ -1 → e'.1 ≠ -1 → e.1 < e'.1
 | [], _, _, _, _, _, i, _, _, _, _, _, _, _, _, h, _, _, _, _, _ => by simp at h
 | y :: rs, n, nx, nx', h0, h, i, i', j, j', r, r', e, e', hlt, h1, h2, h3, h4, h5, h6 => by
   rw [rowsT] at h
   split at h
   ·cases h
   ·split at h
    ·cases h
    ·rename_i k hk
     have hge := rowT_ge hk
     cases i with
     | zero =>
       simp at h1; subst h1
       cases i' with
       | zero =>
         simp at h2; subst h2
         exact rowT_lt h0 hk j j' e e' (by omega) h3 h4 h5 h6
       | succ i' =>
         have a1 : e.1 < k := by
          rcases rowT_edges hk e (List.mem_of_getElem? h3) with h7 | h7
          ·exact absurd h7.1 h5
          ·exact h7.2.1
         rcases rowsT_nx h i' r' (by simpa using h2) e' (List.mem_of_getElem? h4) with h7 | h7
         ·exact absurd h7 h6
         ·omega
     | succ i =>
       cases i' with
       | zero => omega
       | succ i' => exact rowsT_lt (by omega) h i i' j j' r r' e e' (by omega) (by simpa using h1) (by simpa using h2) h3 h4 h5 h6
theorem wordN_asc {t : Mach} (h : checkT t = 0) : AscL ((List.range t.rows.length).map (wordN t)) := by
 have v := TV.of h
 have tp := TP.of h
 have hin := v.ins
 have hlt : ∀ p i p' i' : Nat, (p < p' ∨ p = p' ∧ i < i') → (eT t p i).1 ≠ -1 → (eT t p' i').1 ≠ -1 → (eT t p i).1 < (eT t p' i').1 := fun p i p' i' hl h1 h2 => by
  obtain ⟨r, k1, k2⟩ := eT_get h1
  obtain ⟨r', k3, k4⟩ := eT_get h2
  unfold checkT at h
  split at h
  ·cases h
  ·split at h
   ·cases h
   ·split at h
    ·rename_i nx hnx
     exact rowsT_lt (by omega) hnx p p' i i' r r' _ _ hl k1 k3 k2 k4 h1 h2
    ·cases h
 have key : ∀ n m, m < n → n < t.rows.length → cmpW (castW (wordN t m)) (castW (wordN t n)) < 0 := by
  intro n
  induction n using Nat.strongRecOn with
  | _ n ih =>
    intro m hm hn
    have hpn := parT_lt v tp (n := n) (by omega) hn
    have hen := parT_to v tp (n := n) (by omega) hn
    have hwn := wordN_eq v tp (n := n) (by omega) hn
    by_cases h0 : m = 0
    ·subst h0
     rw [wordN_zero, hwn]
     exact cmpW_short (by simp [castW])
    ·have hpm := parT_lt v tp (n := m) (by omega) (by omega)
     have hem := parT_to v tp (n := m) (by omega) (by omega)
     have hwm := wordN_eq v tp (n := m) (by omega) (by omega)
     have hne1 : (eT t (parT t m).1 (parT t m).2).1 ≠ -1 := by omega
     have hne2 : (eT t (parT t n).1 (parT t n).2).1 ≠ -1 := by omega
     have hc : ∀ x (i : Nat), castW (x ++ [i]) = castW x ++ [(i : Int)] := fun x i => by simp [castW]
     rw [hwm, hwn, hc, hc]
     rcases Nat.lt_trichotomy (parT t m).1 (parT t n).1 with h1 | h1 | h1
     ·exact cmpW_app (ih _ hpn.1 _ h1 (by omega))
     ·rcases Nat.lt_trichotomy (parT t m).2 (parT t n).2 with h2 | h2 | h2
      ·rw [h1]; exact cmpW_snoc (by omega)
      ·rw [h1, h2] at hem; omega
      ·have := hlt _ _ _ _ (.inr ⟨h1.symm, h2⟩) hne2 hne1
       omega
     ·have := hlt _ _ _ _ (.inl h1) hne2 hne1
      omega
 intro n h1 h2
 have h2 : n < t.rows.length := by simpa using h2
 have e : ∀ k, k < t.rows.length → wAt ((List.range t.rows.length).map (wordN t)) k = castW (wordN t k) := fun k hk => by
  unfold wAt
  rw [List.getElem?_map, List.getElem?_range hk]; rfl
 rw [e _ (by omega), e _ h2]
 exact key n (n - 1) (by omega) h2
end Go.Avl
namespace Go.Avl
open Go Go.Proofs.Try
set_option maxRecDepth 10000
set_option linter.unusedSimpArgs false
theorem checkT_01 {t : Mach} (c1 : ¬ (16 < t.ins ∨ 16 < t.outs ∨ 65537 < (t.rows.length : Int))) : checkT t = 0 ∨ checkT t = 1 := by
 unfold checkT
 rw [if_neg c1]
 split
 ·exact .inr rfl
 ·split
  ·split
   ·exact .inl rfl
   ·exact .inr rfl
  ·exact .inr rfl
theorem wordsR_short {t : Mach} (v : TG t) {l : List (List Nat)} (h : wordsR t = some l) : ∀ w ∈ l, w.length < 1000000 := by
 have hrw := v.rows
 have hok := ws0_ok hrw.1
 have hhas : ∀ m, m < t.rows.length → (ws0 t.rows.length).has m = decide (m = 0) := fun m hm => by
  unfold WS.has ws0
  simp only [List.getElem?_set, List.length_replicate]
  by_cases e : m = 0
  ·subst e; rw [if_pos rfl, if_pos hm]; rfl
  ·rw [if_neg (fun h => e h.symm), List.getElem?_replicate, if_pos hm, decide_eq_false e]; rfl
 have hwd : ∀ m, (ws0 t.rows.length).wd m = [] := fun m => by
  unfold WS.wd ws0
  simp only [List.getElem?_replicate]
  split <;> rfl
 unfold wordsR at h
 cases h1 : wR t t.rows.length 0 (ws0 t.rows.length) with
 | none => rw [h1] at h; cases h
 | some s =>
   rw [h1] at h
   simp only at h
   split at h
   ·cases h
   ·cases h
    have f := WG.wR v t.rows.length 0 (ws0 t.rows.length) s (by omega) (Nat.le_refl _) ⟨hok, ⟨by rw [hhas 0 (by omega)]; rfl, hwd 0⟩, fun m hm hm0 hh => by
     rw [hhas m hm, decide_eq_true_eq] at hh
     exact absurd hh hm0, fun q j hq hj hh hx => by
     rw [hwd] at hx
     simp at hx, fun m _ _ => by rw [hwd]; simp, Nat.le_refl _, fun _ m _ _ => by rw [hwd]; simp⟩ (fun m _ _ => by rw [hwd]; simp) h1
    intro w hw
    have := f.ok.le w hw
    omega
set_option maxHeartbeats 8000000 in
theorem checkT33_is (t : Mach) (hr : ∀ r ∈ t.rows, r.2.length < 1000000) : PureIs prog 33 [.ag t.cells] (.sc (.int .i64 (checkT t))) := by
 refine PureIs.of (nv := 3) (hid := [3, 4, 5, 6, 7, 8, 22, 36, 41, 52, 56, 106, 114, 118, 131]) func33 rfl (by kernel_rfl) (by simp [ntmps33]) fun _ => ?_
 rw [ntmps33, results33]
 refine EvC.seq (EvC.rg (by simp only [go_sem, Mach.cells] <;> rfl) (by simp) ?_)
 refine EvC.frzB 0 (by simp only [go_sem] <;> rfl) ?_
 refine EvC.seq ?_
 apply EvC.seq
 apply EvC.trd
 ·simp only [go_sem, List.length_map] <;> rfl
 ·simp
 by_cases c1 : 16 < t.ins ∨ 16 < t.outs ∨ 65537 < (t.rows.length : Int)
 ·have hA : checkT t = 3 := by unfold checkT; rw [if_pos c1]
  rw [hA]
  refine EvC.cond_true (by simp only [go_sem, or3, decide_eq_true c1] <;> rfl) ?_
  refine EvC.seq (EvC.rg (by simp only [go_sem] <;> rfl) (by simp) ?_)
  refine EvC.ret ⟨.inl rfl, _, (by simp only [go_sem] <;> rfl), ?_, rfl⟩
  simp only [go_sem]
 have h01 := checkT_01 c1
 refine EvC.cond_false (by simp only [go_sem, or3, decide_eq_false c1] <;> rfl) ?_
 refine EvC.skip ?_
 refine EvC.seq ?_
 apply EvC.seq
 apply EvC.trd
 ·simp only [go_sem, List.length_map] <;> rfl
 ·simp
 by_cases c2 : t.ins < 1 ∨ t.outs < 1 ∨ (t.rows.length : Int) < 1
 ·have hA : checkT t = 1 := by unfold checkT; rw [if_neg c1, if_pos c2]
  rw [hA]
  refine EvC.cond_true (by simp only [go_sem, or3, decide_eq_true c2] <;> rfl) ?_
  refine EvC.seq (EvC.rg (by simp only [go_sem] <;> rfl) (by simp) ?_)
  refine EvC.ret ⟨.inl rfl, _, (by simp only [go_sem] <;> rfl), ?_, rfl⟩
  simp only [go_sem]
 refine EvC.cond_false (by simp only [go_sem, or3, decide_eq_false c2] <;> rfl) ?_
 refine EvC.skip ?_
 obtain ⟨A, hA⟩ : ∃ A, A = checkT t := ⟨_, rfl⟩
 rw [← hA] at h01 ⊢
 have h1 : ¬ RowsT t → A = 1 := fun h => h01.resolve_left fun h0 => h (TV.of (hA ▸ h0)).rowsT
 refine EvC.seq ?_
 refine EvC.seq (EvC.rg (by simp only [go_sem] <;> rfl) (by simp) ?_)
 refine EvC.block ?_
 refine EvC.loopS (σ := Nat) (fun n => ⟨[(1, .ia t.cells), (3, .sc (.int .i64 n))], [], [], 0⟩) (fun n => t.rows.length - n)
  (fun n => n ≤ t.rows.length ∧ ∀ (i : Nat) (r : Row), i < n → t.rows[i]? = some r → (r.2.length : Int) = t.ins ∧ ∀ e ∈ r.2, edgeOkT t.rows.length t.outs e) [1, 3] 0 ?_ ?_
 ·exact ⟨[], 0, rfl, (by simp only [go_sem, Mach.cells, Int.natCast_zero] <;> rfl), Nat.zero_le _, fun i r h => by omega⟩
 rintro n ⟨g1, g2⟩
 have hnin : (n : Int).toNat = n := Int.toNat_natCast n
 refine EvC.seq ?_
 refine EvC.seq (EvC.rg (by simp only [go_sem, Mach.cells, List.length_map] <;> rfl) (by simp) ?_)
 refine EvC.cond (by simp only [go_sem] <;> rfl) (fun hc => ?_) (fun hc => ?_)
 rotate_left
 ·
  have hc : ¬ n < t.rows.length := by simpa using hc
  have hR : RowsT t := ⟨by omega, by omega, by omega, fun i r hr => g2 i r (by have := (List.getElem?_eq_some_iff.1 hr).1; omega) hr⟩
  have hW := words56_is hR.tg
  rw [Mach.cells] at hW
  refine EvC.exit ?_
  cases hw : wordsR t with
  | none =>
    have hA1 : A = 1 := h01.resolve_left fun h0 => by
     rw [hA] at h0
     rw [wordsR_valid (TV.of h0) (TP.of h0)] at hw
     cases hw
    subst hA1
    rw [hw, wordsA] at hW
    apply EvC.seq
    apply EvC.tr
    ·apply Tr.run
     ·simp only [go_sem] <;> rfl
     ·simp [Mach.cells]
     apply Tr.cons
     ·exact .call rfl rfl (by simp only [go_sem] <;> rfl) (by simp only [go_sem] <;> rfl) (by simp only [go_sem] <;> rfl) (by simp only [go_sem] <;> rfl) (by simp only [go_sem] <;> rfl) (hW)
     apply Tr.done
     ·simp only [go_sem] <;> rfl
     ·simp
    refine EvC.seq ?_
    refine EvC.seq (EvC.rg (by simp only [go_sem, Mach.cells, List.length_map] <;> rfl) (by simp) ?_)
    refine EvC.cond_true (by simp only [go_sem, decide_eq_false (show ¬ (0 : Int) = (t.rows.length : Int) by omega)] <;> rfl) ?_
    refine EvC.seq (EvC.rg (by simp only [go_sem] <;> rfl) (by simp) ?_)
    refine EvC.ret ⟨.inl rfl, _, (by simp only [go_sem] <;> rfl), ?_, rfl⟩
    simp only [go_sem]
  | some l =>
    have hwl := wordsR_some hR.tg hw
    rw [hw, wordsA] at hW
    have hll := hwl.len
    have hwlen := wordsR_short hR.tg hw
    obtain ⟨N, hN⟩ : ∃ N, N = t.rows.length := ⟨_, rfl⟩
    have hlN : (l.map wA).length = N := by rw [List.length_map, hll, hN]
    apply EvC.seq
    apply EvC.tr
    ·apply Tr.run
     ·simp only [go_sem] <;> rfl
     ·simp [Mach.cells]
     apply Tr.cons
     ·exact .call rfl rfl (by simp only [go_sem] <;> rfl) (by simp only [go_sem] <;> rfl) (by simp only [go_sem] <;> rfl) (by simp only [go_sem] <;> rfl) (by simp only [go_sem] <;> rfl) (hW)
     apply Tr.done
     ·simp only [go_sem] <;> rfl
     ·simp
    refine EvC.seq ?_
    refine EvC.seq (EvC.rg (by simp only [go_sem, Mach.cells, List.length_map, hll] <;> rfl) (by simp) ?_)
    refine EvC.cond_false (by simp only [go_sem] <;> rfl) ?_
    refine EvC.skip ?_
    refine EvC.seq ?_
    refine EvC.seq (EvC.rg (by simp only [go_sem] <;> rfl) (by simp) ?_)
    refine EvC.block ?_
    refine EvC.loopS (σ := Nat) (fun n => ⟨[(7, .sl false (l.map wA) .full), (8, .sc (.int .i64 n))], [], [], 0⟩) (fun n => N - n)
     (fun n => 1 ≤ n ∧ n ≤ N ∧ ∀ k, 1 ≤ k → k < n → cmpW (wAt l (k - 1)) (wAt l k) < 0) [7, 8] 0 ?_ ?_
    ·exact ⟨[], 1, rfl, (by simp only [go_sem, Int.natCast_one] <;> rfl), Nat.le_refl _, by omega, fun k h1 h2 => by omega⟩
    rintro m ⟨f1, f2, f3⟩
    have hmin : (m : Int).toNat = m := Int.toNat_natCast m
    have hmi1 : ((m : Int) - 1).toNat = m - 1 := by omega
    refine EvC.seq ?_
    refine EvC.seq (EvC.rg (by simp only [go_sem, hlN] <;> rfl) (by simp) ?_)
    refine EvC.cond (by simp only [go_sem] <;> rfl) (fun hc => ?_) (fun hc => ?_)
    rotate_left
    ·
     have hc : ¬ m < N := by simpa using hc
     have hA0 : A = 0 := by rw [hA]; exact wl_check hR hwl fun k h1 h2 => f3 k h1 (by omega)
     subst hA0
     refine EvC.exit ?_
     refine EvC.seq (EvC.rg (by simp only [go_sem] <;> rfl) (by simp) ?_)
     refine EvC.ret ⟨.inl rfl, _, (by simp only [go_sem] <;> rfl), ?_, rfl⟩
     simp only [go_sem]
    have hm : m < N := by simpa using hc
    clear hc
    refine EvC.skip ?_
    refine EvC.seq ?_
    refine EvC.block ?_
    have hx1 : l[m - 1]? = some (l[m - 1]'(by omega)) := List.getElem?_eq_getElem (by omega)
    have hx2 : l[m]? = some (l[m]'(by omega)) := List.getElem?_eq_getElem (by omega)
    have hc1 : wAt l (m - 1) = castW (l[m - 1]'(by omega)) := by unfold wAt; rw [hx1]; rfl
    have hc2 : wAt l m = castW (l[m]'(by omega)) := by unfold wAt; rw [hx2]; rfl
    have hwl1 : (l[m - 1]'(by omega)).length < 1000000 := by
     exact hwlen _ (List.getElem_mem _)
    generalize l[m - 1]'(by omega) = x at hx1 hc1 hwl1
    generalize l[m]'(by omega) = y at hx2 hc2
    have hC := compare_is x.isEmpty (castW x) (wCp x) y.isEmpty (castW y) (wCp y) (by unfold castW; rw [List.length_map]; exact hwl1)
    rw [castW_natC, castW_natC, ← hc1, ← hc2] at hC
    have hg1 : (l.map wA)[m - 1]? = some (wA x) := by rw [List.getElem?_map, hx1]; rfl
    have hg2 : (l.map wA)[m]? = some (wA y) := by rw [List.getElem?_map, hx2]; rfl
    have hii : inI64 ((m : Int) - 1) = true := inI64_of (by omega) (by omega)
    apply EvC.seq
    apply EvC.drw mixed
    ·apply Tr.run
     ·simp only [go_sem, hlN, hmin, hmi1, hg1, hg2, wA] <;> rfl
     ·simp; exact ⟨hii, by omega⟩
     apply Tr.cons
     ·exact .call rfl rfl (by simp only [go_sem] <;> rfl) (by simp only [go_sem] <;> rfl) (by simp only [go_sem] <;> rfl) (by simp only [go_sem] <;> rfl) (by simp only [go_sem] <;> rfl) (hC)
     apply Tr.done
     ·simp only [go_sem] <;> rfl
     ·simp
    ·kernel_rfl
    by_cases hcm : cmpW (wAt l (m - 1)) (wAt l m) < 0
    rotate_left
    ·have hA1 : A = 1 := h01.resolve_left fun h0 => by
       rw [hA] at h0
       have h2 := wordN_asc h0
       have h3 := wordsR_valid (TV.of h0) (TP.of h0)
       rw [hw] at h3
       cases h3
       exact hcm (h2 m f1 (by simp; omega))
     subst hA1
     refine EvC.cond_true (by simp only [go_sem, decide_eq_true (show 0 ≤ cmpW (wAt l (m - 1)) (wAt l m) by omega)] <;> rfl) ?_
     refine EvC.seq (EvC.rg (by simp only [go_sem] <;> rfl) (by simp) ?_)
     refine EvC.ret ⟨.inl rfl, _, (by simp only [go_sem] <;> rfl), ?_, rfl⟩
     simp only [go_sem]
    refine EvC.cond_false (by simp only [go_sem, decide_eq_false (show ¬ 0 ≤ cmpW (wAt l (m - 1)) (wAt l m) by omega)] <;> rfl) ?_
    refine EvC.skip ?_
    refine EvC.rg (by simp only [go_sem] <;> rfl) (by exact inI64_of (by omega) (by omega)) ?_
    refine ⟨[], m + 1, rfl, (by simp only [go_sem, Int.natCast_add, Int.natCast_one] <;> rfl), ⟨by omega, by omega, fun k q1 q2 => ?_⟩, by omega⟩
    by_cases e : k = m
    ·subst e; exact hcm
    ·exact f3 k q1 (by omega)
 have hn : n < t.rows.length := by simpa using hc
 clear hc
 refine EvC.skip ?_
 refine EvC.seq ?_
 refine EvC.block ?_
 have hx : t.rows[n]? = some (t.rows[n]'hn) := List.getElem?_eq_getElem hn
 have hxl := hr _ (List.getElem_mem hn)
 generalize t.rows[n]'hn = r at hx hxl
 refine EvC.seq ?_
 apply EvC.seq
 apply EvC.drd mixed
 ·simp only [go_sem, Mach.cells, hx, hnin, rowC, List.length_map] <;> rfl
 ·simp; try omega
 ·kernel_rfl
 by_cases hlen : (r.2.length : Int) = t.ins
 rotate_left
 ·have hA1 : A = 1 := h1 fun h => hlen (h.row n r hx).1
  subst hA1
  refine EvC.cond_true (by simp only [go_sem, decide_eq_false hlen] <;> rfl) ?_
  refine EvC.seq (EvC.rg (by simp only [go_sem] <;> rfl) (by simp) ?_)
  refine EvC.ret ⟨.inl rfl, _, (by simp only [go_sem] <;> rfl), ?_, rfl⟩
  simp only [go_sem]
 refine EvC.cond_false (by simp only [go_sem, decide_eq_true hlen] <;> rfl) ?_
 refine EvC.skip ?_
 refine EvC.seq (EvC.rg (by simp only [go_sem] <;> rfl) (by simp) ?_)
 refine EvC.block ?_
 refine EvC.loopS (σ := Nat) (fun i => ⟨[(1, .ia t.cells), (3, .sc (.int .i64 n)), (4, .sc (.int .i64 i))], [], [], 0⟩) (fun i => r.2.length - i)
  (fun i => i ≤ r.2.length ∧ ∀ (j : Nat) (e : Int × Int), j < i → r.2[j]? = some e → edgeOkT t.rows.length t.outs e) [1, 3, 4] 0 ?_ ?_
 ·exact ⟨[], 0, rfl, (by simp only [go_sem, Mach.cells, Int.natCast_zero] <;> rfl), Nat.zero_le _, fun j e h => by omega⟩
 rintro i ⟨k1, k2⟩
 have hiin : (i : Int).toNat = i := Int.toNat_natCast i
 refine EvC.seq ?_
 refine EvC.seq (EvC.rg (by simp only [go_sem, Mach.cells] <;> rfl) (by simp) ?_)
 by_cases hi : i < r.2.length
 rotate_left
 ·
  refine EvC.cond_false (by simp only [go_sem, decide_eq_false (show ¬ (i : Int) < t.ins by omega)] <;> rfl) ?_
  refine EvC.exit ?_
  refine EvC.rg (by simp only [go_sem] <;> rfl) (by exact inI64_of (by omega) (by omega)) ?_
  refine ⟨[], n + 1, rfl, (by simp only [go_sem, Mach.cells, Int.natCast_add, Int.natCast_one] <;> rfl), ⟨hn, fun q r' hq hr' => ?_⟩, by omega⟩
  by_cases e : q = n
  ·subst e
   rw [hx] at hr'; cases hr'
   exact ⟨hlen, fun e he => by
    obtain ⟨j, hj, rfl⟩ := List.mem_iff_getElem.1 he
    exact k2 j _ (by omega) (List.getElem?_eq_getElem hj)⟩
  ·exact g2 q r' (by omega) hr'
 refine EvC.cond_true (by simp only [go_sem, decide_eq_true (show (i : Int) < t.ins by omega)] <;> rfl) ?_
 refine EvC.skip ?_
 refine EvC.seq ?_
 refine EvC.block ?_
 have hy : r.2[i]? = some (r.2[i]'hi) := List.getElem?_eq_getElem hi
 generalize r.2[i]'hi = e at hy
 obtain ⟨e1, e2⟩ := e
 refine EvC.seq (EvC.rg (by simp only [go_sem, Mach.cells, hx, hy, hnin, hiin, rowC, edgeC, List.length_map] <;> rfl) (by simp; try omega) ?_)
 refine EvC.frzB 12 (by simp only [go_sem] <;> rfl) ?_
 apply EvC.seq
 apply EvC.trd
 ·simp only [go_sem, Mach.cells, List.length_map] <;> rfl
 ·simp
 apply EvC.seq
 apply EvC.trd
 ·simp only [go_sem] <;> rfl
 ·simp
 have hcond : (if (!if (if (if decide (1 ≤ e1) = true then decide (e1 < (t.rows.length : Int)) else false) = true then decide (0 ≤ e2) else false) = true then decide (e2 < t.outs) else false) = true then if (!decide (e1 = -1)) = true then true else if (!decide (e2 = -1)) = true then !decide (e2 = -2) else false else false) = !decide (edgeOkT t.rows.length t.outs (e1, e2)) := by
  have he : decide (edgeOkT t.rows.length t.outs (e1, e2)) = ((decide (1 ≤ e1) && decide (e1 < (t.rows.length : Int)) && decide (0 ≤ e2) && decide (e2 < t.outs)) || (decide (e1 = -1) && (decide (e2 = -1) || decide (e2 = -2)))) := by
   rw [Bool.eq_iff_iff, decide_eq_true_iff]
   simp only [Bool.or_eq_true, Bool.and_eq_true, decide_eq_true_eq, edgeOkT, and_assoc]
  rw [he]
  generalize decide (1 ≤ e1) = d1
  generalize decide (e1 < (t.rows.length : Int)) = d2
  generalize decide (0 ≤ e2) = d3
  generalize decide (e2 < t.outs) = d4
  generalize decide (e1 = -1) = n1
  generalize decide (e2 = -1) = n2
  generalize decide (e2 = -2) = n3
  revert d1 d2 d3 d4 n1 n2 n3
  decide
 by_cases hok : edgeOkT t.rows.length t.outs (e1, e2)
 rotate_left
 ·have hA1 : A = 1 := h1 fun h => hok ((h.row n r hx).2 _ (List.mem_of_getElem? hy))
  subst hA1
  refine EvC.cond_true (by simp only [go_sem, hcond, decide_eq_false hok] <;> rfl) ?_
  refine EvC.seq (EvC.rg (by simp only [go_sem] <;> rfl) (by simp) ?_)
  refine EvC.ret ⟨.inl rfl, _, (by simp only [go_sem] <;> rfl), ?_, rfl⟩
  simp only [go_sem]
 refine EvC.cond_false (by simp only [go_sem, hcond, decide_eq_true hok] <;> rfl) ?_
 refine EvC.skip ?_
 refine EvC.rg (by simp only [go_sem] <;> rfl) (by exact inI64_of (by omega) (by omega)) ?_
 refine ⟨[], i + 1, rfl, (by simp only [go_sem, Mach.cells, Int.natCast_add, Int.natCast_one] <;> rfl), ⟨by omega, fun j e hj he => ?_⟩, by omega⟩
 by_cases q : j = i
 ·subst q
  rw [hy] at he; cases he
  exact hok
 ·exact k2 j e (by omega) he
end Go.Avl
namespace Go.Avl
open Go Go.Proofs.Try
set_option maxRecDepth 10000
set_option linter.unusedSimpArgs false
def NoNilR (m : Mach) : Prop := ∀ r ∈ m.rows, r.1 = true → r.2 = []
theorem NoNilR.rowsF {t : Mach} (h : NoNilR t) : RowsF t := fun r hr hne => by
 cases hb : r.1 with
 | false => rfl
 | true => exact absurd (h r hr hb) hne
def wantE (t m : Mach) : Int := if checkM m ≠ 0 then checkM m else if checkT t ≠ 0 then checkT t else if m.ins ≠ t.ins then 5 else 0
noncomputable def fitE (t m : Mach) : Bool := if wantE t m = 0 then fitB t m else false
theorem fitAns_eq (t m : Mach) : fitAns t (fitB t m) m = .tu [.sc (.bool (fitE t m)), .sc (.int .i64 (wantE t m))] := by
 unfold fitAns fitE wantE
 by_cases h1 : checkM m ≠ 0
 ·rw [if_pos h1, if_pos h1, if_neg h1]
 ·rw [if_neg h1, if_neg h1]
  by_cases h2 : checkT t ≠ 0
  ·rw [if_pos h2, if_pos h2, if_neg h2]
  ·rw [if_neg h2, if_neg h2]
   by_cases h3 : m.ins ≠ t.ins
   ·rw [if_pos h3, if_pos h3, if_neg (by simp)]
   ·rw [if_neg h3, if_neg h3, if_pos rfl]
set_option maxHeartbeats 16000000 in
theorem mergesErrors_is {t m : Mach} (ht : NoNilR t) (n0 n1 : Int) : PureIs prog 9 [.ag t.cells, .ag m.cells, .ag [.sc (.int .i64 n0), .sc (.int .i64 n1)]] (.sc (.bool true)) := by
 have hL := lives15_is
 refine PureIs.of (nv := 7) (hid := [7, 8, 9, 10, 11, 12, 13, 14, 15, 16, 17, 18, 19, 20, 21, 22, 23, 33, 38, 47, 52, 61, 92, 134, 155, 165, 190]) func9 rfl (by kernel_rfl) (by simp [ntmps9]) fun _ => ?_
 rw [ntmps9, results9]
 refine EvC.seq (EvC.rg (by simp only [go_sem, Mach.cells] <;> rfl) (by simp) ?_)
 refine EvC.frzB 0 (by simp only [go_sem] <;> rfl) ?_
 refine EvC.frzB 1 (by simp only [go_sem] <;> rfl) ?_
 refine EvC.frzB 2 (by simp only [go_sem] <;> rfl) ?_
 refine EvC.seq ?_
 apply EvC.seq
 apply EvC.trd
 ·simp only [go_sem, List.length_map] <;> rfl
 ·simp
 by_cases hN : t.rows.length ≤ 40 ∧ m.rows.length ≤ 10
 rotate_left
 ·have hg : (if decide ((40 : Int) < (t.rows.length : Int)) = true then true else decide ((10 : Int) < (m.rows.length : Int))) = true := by
    by_cases h : 40 < t.rows.length
    ·rw [decide_eq_true (show (40 : Int) < t.rows.length by omega), if_pos rfl]
    ·rw [decide_eq_false (show ¬ (40 : Int) < t.rows.length by omega), if_neg (by simp), decide_eq_true (show (10 : Int) < m.rows.length by omega)]
  refine EvC.cond_true (by simp only [go_sem, hg] <;> rfl) ?_
  refine EvC.seq (EvC.rg (by simp only [go_sem] <;> rfl) (by simp) ?_)
  refine EvC.ret ⟨.inl rfl, _, (by simp only [go_sem] <;> rfl), ?_, rfl⟩
  simp only [go_sem]
 have hg : (if decide ((40 : Int) < (t.rows.length : Int)) = true then true else decide ((10 : Int) < (m.rows.length : Int))) = false := by
  rw [decide_eq_false (show ¬ (40 : Int) < t.rows.length by omega), if_neg (by simp), decide_eq_false (show ¬ (10 : Int) < m.rows.length by omega)]
 refine EvC.cond_false (by simp only [go_sem, hg] <;> rfl) ?_
 refine EvC.skip ?_
 refine EvC.seq ?_
 refine EvC.seq (EvC.rg (by simp only [go_sem] <;> rfl) (by simp) ?_)
 refine EvC.block ?_
 refine EvC.loopS (σ := Nat) (fun i => ⟨[(3, .ia t.cells), (4, .ia m.cells), (5, .ia [.sc (.int .i64 n0), .sc (.int .i64 n1)]), (7, .sc (.int .i64 i))], [], [], 0⟩) (fun i => t.rows.length - i) (fun i => i ≤ t.rows.length ∧ ∀ (k : Nat) (r : Row), k < i → t.rows[k]? = some r → r.2.length ≤ 20) [3, 4, 5, 7] 0 ?_ ?_
 ·exact ⟨[], 0, rfl, (by simp only [go_sem, Mach.cells, Int.natCast_zero] <;> rfl), Nat.zero_le _, fun k r h => by omega⟩
 rintro i ⟨h1, h2⟩
 have hiin : (i : Int).toNat = i := Int.toNat_natCast i
 refine EvC.seq ?_
 refine EvC.seq (EvC.rg (by simp only [go_sem, Mach.cells, List.length_map] <;> rfl) (by simp) ?_)
 by_cases hi : i < t.rows.length
 ·refine EvC.cond_true (by simp only [go_sem, decide_eq_true (show (i : Int) < t.rows.length by omega)] <;> rfl) ?_
  refine EvC.skip ?_
  refine EvC.seq ?_
  refine EvC.block ?_
  have hx : t.rows[i]? = some (t.rows[i]'hi) := List.getElem?_eq_getElem hi
  generalize t.rows[i]'hi = r at hx
  refine EvC.seq (EvC.rg (by simp only [go_sem, Mach.cells, hx, hiin, rowC, List.length_map] <;> rfl) (by simp; try omega) ?_)
  by_cases h20 : r.2.length ≤ 20
  rotate_left
  ·refine EvC.cond_true (by simp only [go_sem, decide_eq_true (show (20 : Int) < r.2.length by omega)] <;> rfl) ?_
   refine EvC.seq (EvC.rg (by simp only [go_sem] <;> rfl) (by simp) ?_)
   refine EvC.ret ⟨.inl rfl, _, (by simp only [go_sem] <;> rfl), ?_, rfl⟩
   simp only [go_sem]
  refine EvC.cond_false (by simp only [go_sem, decide_eq_false (show ¬ (20 : Int) < r.2.length by omega)] <;> rfl) ?_
  refine EvC.skip ?_
  refine EvC.rg (by simp only [go_sem] <;> rfl) (by exact inI64_of (by omega) (by omega)) ?_
  refine ⟨[], i + 1, rfl, (by simp only [go_sem, Mach.cells, Int.natCast_add, Int.natCast_one] <;> rfl), ⟨by omega, fun k r' hk hr' => ?_⟩, by omega⟩
  by_cases e : k = i
  ·subst e; rw [hx] at hr'; cases hr'; exact h20
  ·exact h2 k r' (by omega) hr'
 have ht20 : ∀ r ∈ t.rows, r.2.length < 1000000 := fun r hr => by
  obtain ⟨k, hk, rfl⟩ := List.mem_iff_getElem.1 hr
  have := h2 k _ (by omega) (List.getElem?_eq_getElem hk)
  omega
 refine EvC.cond_false (by simp only [go_sem, decide_eq_false (show ¬ (i : Int) < t.rows.length by omega)] <;> rfl) ?_
 clear h1 h2 hiin hi
 refine EvC.exit ?_
 refine EvC.seq ?_
 refine EvC.seq (EvC.rg (by simp only [go_sem] <;> rfl) (by simp) ?_)
 refine EvC.block ?_
 refine EvC.loopS (σ := Nat) (fun i => ⟨[(3, .ia t.cells), (4, .ia m.cells), (5, .ia [.sc (.int .i64 n0), .sc (.int .i64 n1)]), (8, .sc (.int .i64 i))], [], [], 0⟩) (fun i => m.rows.length - i) (fun i => i ≤ m.rows.length ∧ ∀ (k : Nat) (r : Row), k < i → m.rows[k]? = some r → r.2.length ≤ 20) [3, 4, 5, 8] 0 ?_ ?_
 ·exact ⟨[], 0, rfl, (by simp only [go_sem, Mach.cells, Int.natCast_zero] <;> rfl), Nat.zero_le _, fun k r h => by omega⟩
 clear i
 rintro i ⟨h1, h2⟩
 have hiin : (i : Int).toNat = i := Int.toNat_natCast i
 refine EvC.seq ?_
 refine EvC.seq (EvC.rg (by simp only [go_sem, Mach.cells, List.length_map] <;> rfl) (by simp) ?_)
 by_cases hi : i < m.rows.length
 ·refine EvC.cond_true (by simp only [go_sem, decide_eq_true (show (i : Int) < m.rows.length by omega)] <;> rfl) ?_
  refine EvC.skip ?_
  refine EvC.seq ?_
  refine EvC.block ?_
  have hx : m.rows[i]? = some (m.rows[i]'hi) := List.getElem?_eq_getElem hi
  generalize m.rows[i]'hi = r at hx
  refine EvC.seq (EvC.rg (by simp only [go_sem, Mach.cells, hx, hiin, rowC, List.length_map] <;> rfl) (by simp; try omega) ?_)
  by_cases h20 : r.2.length ≤ 20
  rotate_left
  ·refine EvC.cond_true (by simp only [go_sem, decide_eq_true (show (20 : Int) < r.2.length by omega)] <;> rfl) ?_
   refine EvC.seq (EvC.rg (by simp only [go_sem] <;> rfl) (by simp) ?_)
   refine EvC.ret ⟨.inl rfl, _, (by simp only [go_sem] <;> rfl), ?_, rfl⟩
   simp only [go_sem]
  refine EvC.cond_false (by simp only [go_sem, decide_eq_false (show ¬ (20 : Int) < r.2.length by omega)] <;> rfl) ?_
  refine EvC.skip ?_
  refine EvC.rg (by simp only [go_sem] <;> rfl) (by exact inI64_of (by omega) (by omega)) ?_
  refine ⟨[], i + 1, rfl, (by simp only [go_sem, Mach.cells, Int.natCast_add, Int.natCast_one] <;> rfl), ⟨by omega, fun k r' hk hr' => ?_⟩, by omega⟩
  by_cases e : k = i
  ·subst e; rw [hx] at hr'; cases hr'; exact h20
  ·exact h2 k r' (by omega) hr'
 have hm20 : ∀ r ∈ m.rows, r.2.length < 1000000 := fun r hr => by
  obtain ⟨k, hk, rfl⟩ := List.mem_iff_getElem.1 hr
  have := h2 k _ (by omega) (List.getElem?_eq_getElem hk)
  omega
 refine EvC.cond_false (by simp only [go_sem, decide_eq_false (show ¬ (i : Int) < m.rows.length by omega)] <;> rfl) ?_
 clear h1 h2 hiin hi
 refine EvC.exit ?_
 have cT := checkT33_is t ht20
 have cC := comp13_is t ht20 n0 n1
 have cF := fold16_is t ht20 ht.rowsF n0 n1
 have cM := merge20_is t ht20 ht.rowsF
 have cL := least31_is t ht20 0 (by omega)
 have cI := fits23_is t m ht20 hm20
 rw [fitAns_eq] at cI
 have cK := check34_is m hm20
 have hWf : wantE t m = if checkM m ≠ 0 then checkM m else if checkT t ≠ 0 then checkT t else if m.ins ≠ t.ins then 5 else 0 := rfl
 have cR : wantE t m = 0 → PureIs prog 24 [.ag m.cells, .ag t.cells] (.sc (.bool (fitE t m))) := fun h => by
  have e : fitE t m = fitB t m := by unfold fitE; rw [if_pos h]
  rw [e]
  unfold wantE at h
  by_cases h1 : checkM m ≠ 0
  ·rw [if_pos h1] at h; exact absurd h h1
  ·rw [if_neg h1] at h
   by_cases h2 : checkT t ≠ 0
   ·rw [if_pos h2] at h; exact absurd h h2
   ·rw [if_neg h2] at h
    by_cases h3 : m.ins ≠ t.ins
    ·rw [if_pos h3] at h; cases h
    ·exact fits24_is (TV.of (Decidable.byContradiction h2)) (TP.of (Decidable.byContradiction h2)) (Valid.of (Decidable.byContradiction h1)) (Decidable.byContradiction h3)
 have hfe : wantE t m ≠ 0 → fitE t m = false := fun h => by unfold fitE; rw [if_neg h]
 have hE1 : nodesE t [] = checkT t := by
  unfold nodesE
  split
  ·rfl
  ·rename_i h; simp at h ⊢; exact h.symm
 have hE2 : nodesE t [n0, n1] = if checkT t = 0 ∧ (n0 < 0 ∨ n1 < 0 ∨ (t.rows.length : Int) ≤ n0 ∨ (t.rows.length : Int) ≤ n1) then 1 else checkT t := by
  have ha : ([n0, n1].all (inT t.rows.length)) = !decide (n0 < 0 ∨ n1 < 0 ∨ (t.rows.length : Int) ≤ n0 ∨ (t.rows.length : Int) ≤ n1) := by
   rw [Bool.eq_iff_iff]
   simp only [List.all_cons, List.all_nil, inT, Bool.and_true, Bool.and_eq_true, decide_eq_true_eq, Bool.not_eq_true', decide_eq_false_iff_not]
   omega
  unfold nodesE
  rw [ha]
  by_cases h : checkT t = 0
  ·rw [if_neg (fun hh => hh h)]
   by_cases hb : n0 < 0 ∨ n1 < 0 ∨ (t.rows.length : Int) ≤ n0 ∨ (t.rows.length : Int) ≤ n1
   ·rw [if_pos (show checkT t = 0 ∧ _ from ⟨h, hb⟩), decide_eq_true hb]; rfl
   ·rw [if_neg (show ¬ (checkT t = 0 ∧ _) from fun h => hb h.2), decide_eq_false hb, h]; rfl
  ·rw [if_pos h, if_neg (show ¬ (checkT t = 0 ∧ _) from fun h2 => h h2.1)]
 unfold compAns at cC
 unfold foldRes at cF
 unfold mergeRes at cM
 unfold leastRes at cL
 rw [hE1] at cM cL
 generalize nodesE t [n0, n1] = two at cC cF hE2
 generalize compB t n0.toNat n1.toNat = CB at cC
 generalize foldC t (List.range t.rows.length) n0.toNat n1.toNat = FC at cF
 generalize checkT t = f at cT cM cL hE2 hWf
 generalize checkM m = k at cK hWf
 generalize mergeT t = MT at cM
 generalize leastL t 64 1 (0 : Int).toNat = LL at cL
 generalize wantE t m = W at cI cR hWf hfe
 generalize fitE t m = FB at cI cR hfe
 obtain ⟨A0, cC, hA0⟩ : ∃ A0 : Bool, PureIs prog 13 [.ag t.cells, .sc (.int .i64 n0), .sc (.int .i64 n1)] (.tu [.sc (.bool A0), .sc (.int .i64 two)]) ∧ (two ≠ 0 → A0 = false) := by
  by_cases h : two = 0
  ·rw [if_neg (fun hh => hh h), ← h] at cC
   exact ⟨CB, cC, fun hh => absurd h hh⟩
  ·rw [if_pos h] at cC
   exact ⟨false, cC, fun _ => rfl⟩
 obtain ⟨nb, cc, cp, B0, cF, hB0⟩ : ∃ (nb : Bool) (cc : List Nat) (cp : Cp) (B0 : Bool), PureIs prog 16 [.ag t.cells, .sc (.int .i64 n0), .sc (.int .i64 n1)] (.tu [.sl nb (cc.map natC) cp, .sc (.bool B0), .sc (.int .i64 two)]) ∧ (two ≠ 0 → B0 = false ∧ cc = []) := by
  by_cases h : two = 0
  ·rw [if_neg (fun hh => hh h)] at cF
   cases FC with
   | none => exact ⟨true, [], .zer, false, by rw [h]; exact cF, fun hh => absurd h hh⟩
   | some c => exact ⟨false, c, .full, true, by rw [h]; exact cF, fun hh => absurd h hh⟩
  ·rw [if_pos h] at cF
   exact ⟨true, [], .zer, false, cF, fun _ => ⟨rfl, rfl⟩⟩
 obtain ⟨za, zb, zn, zl, zc, h0, cM, hM0⟩ : ∃ (za zb : Int) (zn : Bool) (zl : List (List AV)) (zc : Cp) (h0 : Int), PureIs prog 20 [.ag t.cells] (.tu [.ag [.sc (.int .i64 za), .sc (.int .i64 zb), .sl zn zl zc], .sc (.int .i64 h0)]) ∧ (f ≠ 0 → h0 = f) := by
  by_cases h : f = 0
  ·rw [if_neg (fun hh => hh h)] at cM
   cases MT with
   | none => exact ⟨0, 0, true, [], .zer, 3, cM, fun hh => absurd h hh⟩
   | some rows => exact ⟨_, _, _, _, _, 0, cM, fun hh => absurd h hh⟩
  ·rw [if_pos h] at cM
   exact ⟨0, 0, true, [], .zer, f, cM, fun _ => rfl⟩
 obtain ⟨i0, cL, hI0, hI1⟩ : ∃ i0 : Int, PureIs prog 31 [.ag t.cells, .sc (.int .i64 0)] (.tu [zeroM, .sc (.int .i64 0), .sc (.int .i64 i0)]) ∧ (f ≠ 0 → i0 = f) ∧ (f = 0 → i0 = 17) := by
  by_cases h : f = 0
  ·rw [if_neg (fun hh => hh h), if_pos (by decide)] at cL
   exact ⟨17, cL, fun hh => absurd h hh, fun _ => rfl⟩
  ·rw [if_pos h] at cL
   exact ⟨f, cL, fun _ => rfl, fun hh => absurd hh h⟩
 rw [zeroM] at cL
 rw [Mach.cells] at cT cC cF cM cL cI cK cR
 rw [Mach.cells] at cI cR
 apply EvC.seq
 apply EvC.tr
 ·apply Tr.run
  ·simp only [go_sem] <;> rfl
  ·simp [Mach.cells]
  apply Tr.cons
  ·exact .call rfl rfl (by simp only [go_sem] <;> rfl) (by simp only [go_sem] <;> rfl) (by simp only [go_sem] <;> rfl) (by simp only [go_sem] <;> rfl) (by simp only [go_sem] <;> rfl) (cT)
  apply Tr.done
  ·simp only [go_sem] <;> rfl
  ·simp
 refine EvC.seq (EvC.rg (by simp only [go_sem] <;> rfl) (by simp) ?_)
 have hb : (if (if (if decide (n0 < 0) = true then true else decide (n1 < 0)) = true then true else decide ((t.rows.length : Int) ≤ n0)) = true then true else decide ((t.rows.length : Int) ≤ n1)) = decide (n0 < 0 ∨ n1 < 0 ∨ (t.rows.length : Int) ≤ n0 ∨ (t.rows.length : Int) ≤ n1) := by
  by_cases a : n0 < 0
  ·simp [a]
  ·by_cases b : n1 < 0
   ·simp [a, b]
   ·by_cases c : (t.rows.length : Int) ≤ n0
    ·simp [a, b, c]
    ·by_cases d : (t.rows.length : Int) ≤ n1 <;> simp [a, b, c, d]
 refine EvC.mergeC (α := Unit) (fun _ => ⟨[(3, .ia t.cells), (4, .ia m.cells), (5, .ia [.sc (.int .i64 n0), .sc (.int .i64 n1)]), (9, .sc (.int .i64 f)), (10, .sc (.int .i64 two))], [], [], 0⟩) (fun _ => True) ?_ ?_
 ·by_cases hbad : f = 0 ∧ (n0 < 0 ∨ n1 < 0 ∨ (t.rows.length : Int) ≤ n0 ∨ (t.rows.length : Int) ≤ n1)
  ·rw [if_pos hbad] at hE2
   rw [hE2]
   apply EvC.seq
   apply EvC.trd
   ·simp only [go_sem, List.length_map] <;> rfl
   ·simp
   refine EvC.cond_true (by simp only [go_sem, decide_eq_true hbad.1, hb, decide_eq_true hbad.2] <;> rfl) ?_
   refine EvC.rg (by simp only [go_sem] <;> rfl) (by simp) ?_
   exact ⟨rfl, (), trivial, fun c Q h => EvC.gcE [3, 4, 5, 9, 10] [] 0 rfl (by simp only [go_sem, Mach.cells] <;> rfl) h⟩
  ·rw [if_neg hbad] at hE2
   rw [hE2]
   apply EvC.seq
   apply EvC.trd
   ·simp only [go_sem, List.length_map] <;> rfl
   ·simp
   by_cases hf0 : f = 0
   ·refine EvC.cond_false (by simp only [go_sem, decide_eq_true hf0, hb, decide_eq_false (fun h => hbad ⟨hf0, h⟩)] <;> rfl) ?_
    refine EvC.skip ?_
    exact ⟨rfl, (), trivial, fun c Q h => EvC.gcE [3, 4, 5, 9, 10] [] 0 rfl (by simp only [go_sem, Mach.cells] <;> rfl) h⟩
   ·refine EvC.cond_false (by simp only [go_sem, decide_eq_false hf0] <;> rfl) ?_
    refine EvC.skip ?_
    exact ⟨rfl, (), trivial, fun c Q h => EvC.gcE [3, 4, 5, 9, 10] [] 0 rfl (by simp only [go_sem, Mach.cells] <;> rfl) h⟩
 intro _ _
 apply EvC.seq
 apply EvC.tr
 ·apply Tr.run
  ·simp only [go_sem] <;> rfl
  ·simp [Mach.cells]
  apply Tr.cons
  ·exact .call rfl rfl (by simp only [go_sem] <;> rfl) (by simp only [go_sem] <;> rfl) (by simp only [go_sem] <;> rfl) (by simp only [go_sem] <;> rfl) (by simp only [go_sem] <;> rfl) (cC)
  apply Tr.done
  ·simp only [go_sem] <;> rfl
  ·simp
 apply EvC.seq
 apply EvC.tr
 ·apply Tr.run
  ·simp only [go_sem] <;> rfl
  ·simp [Mach.cells]
  apply Tr.cons
  ·exact .call rfl rfl (by simp only [go_sem] <;> rfl) (by simp only [go_sem] <;> rfl) (by simp only [go_sem] <;> rfl) (by simp only [go_sem] <;> rfl) (by simp only [go_sem] <;> rfl) (cF)
  apply Tr.done
  ·simp only [go_sem] <;> rfl
  ·simp
 refine EvC.mergeC (α := Unit) (fun _ => ⟨[(3, .ia t.cells), (4, .ia m.cells), (9, .sc (.int .i64 f))], [], [], 0⟩) (fun _ => True) ?_ ?_
 ·by_cases h2 : two = 0
  ·apply EvC.seq
   apply EvC.trd
   ·simp only [go_sem] <;> rfl
   ·simp
   refine EvC.cond_false (by simp only [go_sem, decide_eq_true h2] <;> rfl) ?_
   refine EvC.skip ?_
   exact ⟨rfl, (), trivial, fun c Q h => EvC.gcE [3, 4, 9] [] 0 rfl (by simp only [go_sem, Mach.cells] <;> rfl) h⟩
  ·have a0 := hA0 h2
   obtain ⟨b0, c0⟩ := hB0 h2
   subst a0 b0 c0
   apply EvC.seq
   apply EvC.trd
   ·simp only [go_sem] <;> rfl
   ·simp
   refine EvC.cond_false (by simp only [go_sem, decide_eq_false h2] <;> rfl) ?_
   refine EvC.skip ?_
   exact ⟨rfl, (), trivial, fun c Q h => EvC.gcE [3, 4, 9] [] 0 rfl (by simp only [go_sem, Mach.cells] <;> rfl) h⟩
 intro _ _
 apply EvC.seq
 apply EvC.tr
 ·apply Tr.run
  ·simp only [go_sem] <;> rfl
  ·simp [Mach.cells]
  apply Tr.cons
  ·exact .call rfl rfl (by simp only [go_sem] <;> rfl) (by simp only [go_sem] <;> rfl) (by simp only [go_sem] <;> rfl) (by simp only [go_sem] <;> rfl) (by simp only [go_sem] <;> rfl) (cM)
  apply Tr.done
  ·simp only [go_sem] <;> rfl
  ·simp
 refine EvC.gc [3, 4, 9, 17] [] 0 rfl ?_
 apply EvC.seq
 apply EvC.tr
 ·apply Tr.run
  ·simp only [go_sem] <;> rfl
  ·simp [Mach.cells]
  apply Tr.cons
  ·exact .call rfl rfl (by simp only [go_sem] <;> rfl) (by simp only [go_sem] <;> rfl) (by simp only [go_sem] <;> rfl) (by simp only [go_sem] <;> rfl) (by simp only [go_sem] <;> rfl) (cL)
  apply Tr.done
  ·simp only [go_sem] <;> rfl
  ·simp
 refine EvC.gc [3, 4, 9, 17, 20] [] 0 rfl ?_
 apply EvC.seq
 apply EvC.tr
 ·apply Tr.run
  ·simp only [go_sem] <;> rfl
  ·simp [Mach.cells]
  apply Tr.cons
  ·exact .call rfl rfl (by simp only [go_sem] <;> rfl) (by simp only [go_sem] <;> rfl) (by simp only [go_sem] <;> rfl) (by simp only [go_sem] <;> rfl) (by simp only [go_sem] <;> rfl) (cI)
  apply Tr.done
  ·simp only [go_sem] <;> rfl
  ·simp
 apply EvC.seq
 apply EvC.tr
 ·apply Tr.run
  ·simp only [go_sem] <;> rfl
  ·simp [Mach.cells]
  apply Tr.cons
  ·exact .call rfl rfl (by simp only [go_sem] <;> rfl) (by simp only [go_sem] <;> rfl) (by simp only [go_sem] <;> rfl) (by simp only [go_sem] <;> rfl) (by simp only [go_sem] <;> rfl) (cK)
  apply Tr.done
  ·simp only [go_sem] <;> rfl
  ·simp
 obtain ⟨k2, hk2⟩ : ∃ k2, k2 = if k = 0 then f else k := ⟨_, rfl⟩
 have hW2 : W = if k2 = 0 ∧ m.ins ≠ t.ins then 5 else k2 := by
  rw [hWf, hk2]
  by_cases h1 : k = 0
  ·rw [if_neg (fun hh => hh h1), if_pos h1]
   by_cases h2 : f = 0
   ·rw [if_neg (fun hh => hh h2), h2]
    by_cases h3 : m.ins = t.ins
    ·rw [if_neg (fun hh => hh h3), if_neg (fun hh => hh.2 h3)]
    ·rw [if_pos h3, if_pos ⟨rfl, h3⟩]
   ·rw [if_pos h2, if_neg (fun hh => h2 hh.1)]
  ·rw [if_pos h1, if_neg h1, if_neg (fun hh => h1 hh.1)]
 clear hWf
 refine EvC.mergeC (α := Unit) (fun _ => ⟨[(3, .ia t.cells), (4, .ia m.cells), (9, .sc (.int .i64 f)), (17, .sc (.int .i64 h0)), (20, .sc (.int .i64 i0)), (21, .sc (.bool FB)), (22, .sc (.int .i64 W)), (23, .sc (.int .i64 k2))], [], [], 0⟩) (fun _ => True) ?_ ?_
 ·by_cases h1 : k = 0
  ·rw [if_pos h1] at hk2
   rw [hk2]
   refine EvC.seq (EvC.rg (by simp only [go_sem] <;> rfl) (by simp) ?_)
   refine EvC.cond_true (by simp only [go_sem, decide_eq_true h1] <;> rfl) ?_
   refine EvC.rg (by simp only [go_sem] <;> rfl) (by simp) ?_
   exact ⟨rfl, (), trivial, fun c Q h => EvC.gcE [3, 4, 9, 17, 20, 21, 22, 23] [] 0 rfl (by simp only [go_sem, Mach.cells] <;> rfl) h⟩
  ·rw [if_neg h1] at hk2
   rw [hk2]
   refine EvC.seq (EvC.rg (by simp only [go_sem] <;> rfl) (by simp) ?_)
   refine EvC.cond_false (by simp only [go_sem, decide_eq_false h1] <;> rfl) ?_
   refine EvC.skip ?_
   exact ⟨rfl, (), trivial, fun c Q h => EvC.gcE [3, 4, 9, 17, 20, 21, 22, 23] [] 0 rfl (by simp only [go_sem, Mach.cells] <;> rfl) h⟩
 intro _ _
 refine EvC.mergeC (α := Unit) (fun _ => ⟨[(3, .ia t.cells), (4, .ia m.cells), (9, .sc (.int .i64 f)), (17, .sc (.int .i64 h0)), (20, .sc (.int .i64 i0)), (21, .sc (.bool FB)), (22, .sc (.int .i64 W)), (23, .sc (.int .i64 W))], [], [], 0⟩) (fun _ => True) ?_ ?_
 ·by_cases h1 : k2 = 0
  ·by_cases h3 : m.ins = t.ins
   ·rw [if_neg (fun hh => hh.2 h3)] at hW2
    rw [hW2]
    apply EvC.seq
    apply EvC.trd
    ·simp only [go_sem, Mach.cells] <;> rfl
    ·simp [Mach.cells]
    refine EvC.cond_false (by simp only [go_sem, decide_eq_true h1, decide_eq_true h3] <;> rfl) ?_
    refine EvC.skip ?_
    exact ⟨rfl, (), trivial, fun c Q h => EvC.gcE [3, 4, 9, 17, 20, 21, 22, 23] [] 0 rfl (by simp only [go_sem, Mach.cells] <;> rfl) h⟩
   ·rw [if_pos ⟨h1, h3⟩] at hW2
    rw [hW2]
    apply EvC.seq
    apply EvC.trd
    ·simp only [go_sem, Mach.cells] <;> rfl
    ·simp [Mach.cells]
    refine EvC.cond_true (by simp only [go_sem, decide_eq_true h1, decide_eq_false h3] <;> rfl) ?_
    refine EvC.rg (by simp only [go_sem] <;> rfl) (by simp) ?_
    exact ⟨rfl, (), trivial, fun c Q h => EvC.gcE [3, 4, 9, 17, 20, 21, 22, 23] [] 0 rfl (by simp only [go_sem, Mach.cells] <;> rfl) h⟩
  ·rw [if_neg (fun hh => h1 hh.1)] at hW2
   rw [hW2]
   apply EvC.seq
   apply EvC.trd
   ·simp only [go_sem, Mach.cells] <;> rfl
   ·simp [Mach.cells]
   refine EvC.cond_false (by simp only [go_sem, decide_eq_false h1] <;> rfl) ?_
   refine EvC.skip ?_
   exact ⟨rfl, (), trivial, fun c Q h => EvC.gcE [3, 4, 9, 17, 20, 21, 22, 23] [] 0 rfl (by simp only [go_sem, Mach.cells] <;> rfl) h⟩
 intro _ _
 refine EvC.mergeC (α := Unit) (fun _ => ⟨[(3, .ia t.cells), (4, .ia m.cells), (21, .sc (.bool FB)), (23, .sc (.int .i64 W))], [], [], 0⟩) (fun _ => True) ?_ ?_
 ·by_cases hf : f = 0
  ·have := hI1 hf
   subst this
   apply EvC.seq
   apply EvC.trd
   ·simp only [go_sem] <;> rfl
   ·simp
   refine EvC.cond_false (by simp only [go_sem, decide_eq_true hf] <;> rfl) ?_
   refine EvC.skip ?_
   exact ⟨rfl, (), trivial, fun c Q h => EvC.gcE [3, 4, 21, 23] [] 0 rfl (by simp only [go_sem, Mach.cells] <;> rfl) h⟩
  ·have e1 := hM0 hf
   have e2 := hI0 hf
   rw [e1, e2]
   apply EvC.seq
   apply EvC.trd
   ·simp only [go_sem] <;> rfl
   ·simp
   refine EvC.cond_false (by simp only [go_sem, decide_eq_false hf] <;> rfl) ?_
   refine EvC.skip ?_
   exact ⟨rfl, (), trivial, fun c Q h => EvC.gcE [3, 4, 21, 23] [] 0 rfl (by simp only [go_sem, Mach.cells] <;> rfl) h⟩
 intro _ _
 by_cases hW : W = 0
 ·have cR := cR hW
  have dW := decide_eq_true hW
  cases FB with
  | false =>
    apply EvC.seq
    apply EvC.tr
    ·apply Tr.run
     ·simp only [go_sem, dW] <;> rfl
     ·simp [Mach.cells]
     apply Tr.cons
     ·exact .callG rfl rfl (by simp only [go_sem] <;> rfl) rfl (by simp only [go_sem] <;> rfl) (by simp only [go_sem] <;> rfl) (by simp only [go_sem] <;> rfl) (by simp only [go_sem] <;> rfl) (by simp only [go_sem] <;> rfl) (cR)
     apply Tr.run
     ·simp only [go_sem, dW] <;> rfl
     ·simp [Mach.cells]
     apply Tr.cons
     ·exact .callG rfl rfl (by simp only [go_sem] <;> rfl) rfl (by simp only [go_sem] <;> rfl) (by simp only [go_sem] <;> rfl) (by simp only [go_sem] <;> rfl) (by simp only [go_sem] <;> rfl) (by simp only [go_sem] <;> rfl) (hL)
     apply Tr.done
     ·simp only [go_sem, dW] <;> rfl
     ·simp
    refine EvC.ret ⟨.inl rfl, _, (by simp only [go_sem] <;> rfl), ?_, rfl⟩
    simp only [go_sem]
    all_goals rfl
  | true =>
    apply EvC.seq
    apply EvC.tr
    ·apply Tr.run
     ·simp only [go_sem, dW] <;> rfl
     ·simp [Mach.cells]
     apply Tr.cons
     ·exact .callG rfl rfl (by simp only [go_sem] <;> rfl) rfl (by simp only [go_sem] <;> rfl) (by simp only [go_sem] <;> rfl) (by simp only [go_sem] <;> rfl) (by simp only [go_sem] <;> rfl) (by simp only [go_sem] <;> rfl) (cR)
     apply Tr.run
     ·simp only [go_sem, dW] <;> rfl
     ·simp [Mach.cells]
     apply Tr.cons
     ·exact .callG rfl rfl (by simp only [go_sem] <;> rfl) rfl (by simp only [go_sem] <;> rfl) (by simp only [go_sem] <;> rfl) (by simp only [go_sem] <;> rfl) (by simp only [go_sem] <;> rfl) (by simp only [go_sem] <;> rfl) (hL)
     apply Tr.done
     ·simp only [go_sem, dW] <;> rfl
     ·simp
    refine EvC.ret ⟨.inl rfl, _, (by simp only [go_sem] <;> rfl), ?_, rfl⟩
    simp only [go_sem]
    all_goals rfl
 ·have dW := decide_eq_false hW
  have e := hfe hW
  subst e
  apply EvC.seq
  apply EvC.tr
  ·apply Tr.run
   ·simp only [go_sem, dW] <;> rfl
   ·simp [Mach.cells]
   apply Tr.cons
   ·exact .skipv ((.sc (.bool false))) rfl rfl (by simp only [go_sem] <;> rfl) (by simp only [go_sem] <;> rfl)
   apply Tr.run
   ·simp only [go_sem, dW] <;> rfl
   ·simp [Mach.cells]
   apply Tr.cons
   ·exact .callG rfl rfl (by simp only [go_sem] <;> rfl) rfl (by simp only [go_sem] <;> rfl) (by simp only [go_sem] <;> rfl) (by simp only [go_sem] <;> rfl) (by simp only [go_sem] <;> rfl) (by simp only [go_sem] <;> rfl) (hL)
   apply Tr.done
   ·simp only [go_sem, dW] <;> rfl
   ·simp
  refine EvC.ret ⟨.inl rfl, _, (by simp only [go_sem] <;> rfl), ?_, rfl⟩
  simp only [go_sem]
  all_goals rfl
end Go.Avl
namespace Go.Proofs.Ytkfpnkpomjmpeaa
open Go Go.Avl Go.Proofs Go.ChangeShapes Go.RowKit
section
variable {H : Type} {enc : TypeId × Value → H} {w : World}
theorem rd_edge : Reads enc Try.prog w 82 edgeC (fun _ => True) := by
 have := (Reads.struct (enc := enc) (w := w) (tot := 2) Try.underlying82 (by kernel_rfl) (.cons (sz := 1) rfl (by kernel_rfl) rfl rd_i64 (.cons (sz := 1) rfl (by kernel_rfl) rfl rd_i64 .nil)))
 exact this.mono fun a _ => ⟨(a.1, a.2.1), trivial, rfl⟩
theorem rd_row : Reads enc Try.prog w 75 rowC (fun r => r.1 = true → r.2 = []) :=
 (Reads.slice (by kernel_rfl) rd_edge (fun a => by rw [show Program.cellsOf Try.prog 82 = 2 by kernel_rfl]; rfl) (by rw [show Program.cellsOf Try.prog 82 = 2 by kernel_rfl]; exact Nat.succ_pos _)).mono fun a h => ⟨a, h.2.1, rfl⟩
theorem rd_rows : Reads enc Try.prog w 28 (fun x : Bool × List Row => [.sl x.1 (x.2.map rowC) .unk]) (fun x => ∀ r ∈ x.2, r.1 = true → r.2 = []) :=
 (Reads.slice (by kernel_rfl) rd_row (fun a => by rw [show Program.cellsOf Try.prog 75 = 1 by kernel_rfl]; rfl) (by rw [show Program.cellsOf Try.prog 75 = 1 by kernel_rfl]; exact Nat.succ_pos _)).mono fun a h => ⟨a, h.1, rfl⟩
theorem rd_tree : Reads enc Try.prog w 30 Mach.cells NoNilR := by
 have := (Reads.struct (enc := enc) (w := w) (tot := 3) Try.underlying30 (by kernel_rfl) (.cons (sz := 1) rfl (by kernel_rfl) rfl rd_i64 (.cons (sz := 1) rfl (by kernel_rfl) rfl rd_i64 (.cons (sz := 1) rfl (by kernel_rfl) rfl rd_rows .nil))))
 exact this.mono fun a h => ⟨⟨a.1, a.2.1, a.2.2.1.1, a.2.2.1.2⟩, h.2.2.1, rfl⟩
theorem rd_mach : Reads enc Try.prog w 49 Mach.cells NoNilR := by
 have := (Reads.struct (enc := enc) (w := w) (tot := 3) Try.underlying49 (by kernel_rfl) (.cons (sz := 1) rfl (by kernel_rfl) rfl rd_i64 (.cons (sz := 1) rfl (by kernel_rfl) rfl rd_i64 (.cons (sz := 1) rfl (by kernel_rfl) rfl rd_rows .nil))))
 exact this.mono fun a h => ⟨⟨a.1, a.2.1, a.2.2.1.1, a.2.2.1.2⟩, h.2.2.1, rfl⟩
theorem rd_two : Reads enc Try.prog w 74 (fun x : Int × Int => [.sc (.int .i64 x.1), .sc (.int .i64 x.2)]) (fun _ => True) := by
 have := (Reads.array (enc := enc) (w := w) (P := Try.prog) (t := 74) (e := 3) (n := 2) (sz := 1) (by kernel_rfl) (by kernel_rfl) (by kernel_rfl) rd_i64)
 exact this.mono fun l h => by
  obtain ⟨h, _⟩ := h
  match l, h with
  | [a, b], _ => exact ⟨(a, b), trivial, rfl⟩
end
end Go.Proofs.Ytkfpnkpomjmpeaa
namespace Go.Proofs.Ytkfpnkpomjmpeaa
open Go Go.Avl Go.Proofs Go.ChangeShapes Go.RowKit
set_option maxRecDepth 100000 in
theorem mergesErrors_lifted (os : Os) (started : os.Started) (H : Type) (enc : TypeId × Value → H) :
  ReturnsInHanded {} Try.checked os 9 .any (Rows.mergesErrorsSpec.pre6 enc Try.prog Try.f9 Rows.mergesErrorsRow.domain false) (Rows.mergesErrorsSpec.post enc Try.prog Try.f9 false true false false) := by
 refine returnsInHanded_of_change_sized (C := Try.checked) Try.own started (by kernel_rfl) Try.func9
  (ChangeSpec.witness6 (enc := enc) (C := Try.checked) false ⟨#[], #[.agg #[.int .i64 0, .int .i64 0, .slice none 0 0], .agg #[.int .i64 0, .int .i64 0, .slice none 0 0], .agg #[.int .i64 0, .int .i64 0]], []⟩ 8 (by kernel_rfl) (by kernel_rfl) (by kernel_rfl) (by kernel_rfl)) ?_
 intro W base args ds gs before hval hW _ hz _
 have hW' := hW
 obtain ⟨p, q, hA, hV, rfl, _, _⟩ := hW'
 obtain ⟨rfl, rfl⟩ := trodVars_none hV
 have hA' : DataW.TrodAll enc Try.prog W 0 (fun _ => true) true [30, 49, 74] args.toList ds p := by rw [← show Try.f9.params.toList = [30, 49, 74] from rfl]; exact hA
 obtain ⟨v0, v1, v2, d0, d1, d2, p0, p1, p2, rfl, rfl, rfl, h0, h1, h2⟩ := trodAll_three hA'
 have hz' : (DataW.weightsEach Try.prog [30, 49, 74] [d0, d1, d2]).all (· ≤ reachBytes) = true := hz
 have hf := fits_each (P := Try.prog) (ts := [30, 49, 74]) (l := [d0, d1, d2]) fun n hn => by simpa using List.all_eq_true.1 hz' n hn
 obtain ⟨x, hx, i0⟩ := rd_tree.imm_struct Try.underlying30 (hval 0 30 v0 rfl rfl) (hf 0 30 d0 rfl rfl) h0
 obtain ⟨y, hy, i1⟩ := rd_mach.imm_struct Try.underlying49 (hval 1 49 v1 rfl rfl) (hf 1 49 d1 rfl rfl) h1
 obtain ⟨z, hz, i2⟩ := rd_two.imm_array (by kernel_rfl : Try.prog.underlying 74 = some (.array 2 3)) (hval 2 74 v2 rfl rfl) (hf 2 74 d2 rfl rfl) h2
 exact law_calls Try.laidOut (by kernel_rfl) rfl (by kernel_rfl) rfl rfl (mergesErrors_is hx z.1 z.2) (Imms.append (.one i0) (Imms.append (.one i1) (.one i2))) hW
theorem mergesErrors_holds : Rows.MergesErrorsSaid :=
 OpenClaim.holds_of_wide 9 Try.f9 rfl rfl rfl rfl rfl rfl rfl ⟨rfl, rfl, rfl, rfl, rfl⟩ rfl rfl rfl rfl rfl (by kernel_rfl) Try.func9 (by kernel_rfl)
  (of_decide_eq_true (by kernel_rfl)) (by unfold Func.isWrapper; first | (rw [if_pos (by decide +kernel)]; kernel_rfl) | (rw [if_neg (by decide +kernel)]; exact ⟨rfl, rfl⟩))
  (fun os started H enc _ => mergesErrors_lifted os started H enc)
#print axioms mergesErrors_holds
end Go.Proofs.Ytkfpnkpomjmpeaa
