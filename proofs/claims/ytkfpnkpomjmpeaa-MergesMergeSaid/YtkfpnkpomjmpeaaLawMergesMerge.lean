/-
  Lemmas.
  A call that freezes an object lent to it: its result may be that object.
  Lemmas.
  Lemmas.
  Lemmas.
  Lemmas.
  Lemmas.
  Lemmas.
  Lemmas.
  MergesMerge returns true at every input, and each argument reads behind the call as it read before.
-/
import Derived.Test.YtkfpnkpomjmpeaaPart10
set_option linter.unusedSimpArgs false
set_option linter.unusedVariables false
set_option linter.unnecessarySimpa false
set_option linter.deprecated false
namespace Go.Avl
open Go Go.Proofs.Try
set_option maxRecDepth 10000
set_option linter.unusedSimpArgs false
theorem treeM_rowsF (i : Nat) (o : Int) (L : List TR) : RowsF (treeM i o L) := fun r hr _ => by
 unfold treeM at hr
 simp only [List.mem_map] at hr
 obtain ⟨x, _, rfl⟩ := hr
 rfl
theorem TV.short {t : Mach} (v : TV t) : ∀ r ∈ t.rows, r.2.length < 1000000 := fun r hr => by
 obtain ⟨i, hi, rfl⟩ := List.mem_iff_getElem.1 hr
 have := (v.row i _ (List.getElem?_eq_getElem hi)).1
 have := v.ins
 omega
theorem LG.tree_is {g : LG} (hg : g.Ok) : PureIs prog 11 [logA g.m.mach.ins g.m.mach.outs g.log] (.ag g.tree.cells) := by
 have va := (LM.valid hg.m).ins
 have hl := (LG.log_len (g := g)).1
 have := tree11_is g.m.mach.ins.toNat g.m.mach.outs g.log.isEmpty g.log .unk (fun t ht => ⟨(LG.log_val hg t ht).len, by have := (LG.log_len (g := g)).2 t ht; omega⟩) (by omega) (by omega)
 rw [Int.toNat_of_nonneg (by omega)] at this
 exact this
theorem nodesE_zero {t : Mach} (h : checkT t = 0) {l : List Int} (hl : ∀ x ∈ l, 0 ≤ x ∧ x < t.rows.length) : nodesE t l = 0 := by
 unfold nodesE
 rw [h, if_neg (by simp), if_pos]
 rw [List.all_eq_true]
 intro x hx
 have := hl x hx
 unfold inT
 simp; omega
end Go.Avl
namespace Go.Avl
open Go
section
variable {P : Program} {fr : Fr} {ro : Option Nat} {ds : DS} {st st' : St} {G G' : Nat → Option Value} {F F' : Nat → Nat → Prop} {a : Act} {w w' : World} {c : Code}
 {M : Mem} {ops : Array Oper} {l rest : List Oper} {o : Oper} {id N : Nat} {rd : List Nat}
theorem OpIs.callFz {f : FuncId} {callee : Operand} {args : Array Operand} {tys : Array TypeId} {i esz : Nat} {es : List (List AV)} {fz : Bool} {xs : List AV} {r : AV} (hg : o.guard = none) (hop : o.op = .call ⟨.value callee, args, tys⟩) (hd : dok fr o.dst = true)
  (hcal : od fr st true callee = .fn f []) (ho : mlook st.mem i = some (.arr esz es fz)) (hes : es.all AV.norefs = true)
  (hxs : (args.toList.map fun x => AV.deep (snap [(i, .arr esz es true)]) (od fr st true x)) = xs) (hn : AV.norefs xs = true) (hrn : r.noref = true)
  (hrd : opSlots o.op.operands.toList ++ [2 * i + 1] = rd) (hc : PureIs P f xs r) : OpIs P fr ro ds ops id st ⟨o, ⟨r, some (i, .arr esz es true)⟩, rd⟩ := by
 intro st' G F a w N K Q1 s hN hG hlk h
 simp only [Region.wanted, hg, if_true]
 have hslot : ∀ x ∈ o.op.operands.toList, opnd fr st' x = opnd fr st x := fun x hx => by
  cases x with
  | tmp t => exact look_slot (hlk _ (by simp only; rw [← hrd]; exact List.mem_append_left _ (opSlots_mem hx)))
  | _ => rfl
 rw [hop] at hslot
 have hod : ∀ z, z = callee ∨ z ∈ args.toList → od fr st' true z = od fr st true z := fun z hz => by
  unfold od; rw [hslot z (by simp only [Op.operands, Call.operands]; simpa using hz)]
 have ho' : mlook st'.mem i = some (.arr esz es fz) := by rw [← ho]; exact look_obj (hlk _ (by simp only; rw [← hrd]; simp))
 refine ⟨fun _ _ => trivial, ?_⟩
 rw [Oper.semAt_eq _ _ _ (by rw [hop]; intro c h; cases h)]
 have hv := (s.eval callee).unopt
 have hv : RV G F st'.mem w (a.eval callee) (.fn f []) := by have := hod callee (.inl rfl); unfold od at this hcal; rwa [this, hcal] at hv
 obtain ⟨vs, hev, hll, _⟩ := hv.inv_fn
 have hvs : vs = [] := by cases vs with
  | nil => rfl
  | cons a l => simp at hll
 subst hvs
 obtain ⟨F1, hm1, S1⟩ := simM_frz s.mem ho' hes
 have hrun : (execOp a.eval o).run P w = .ok (.enter f ((args.toList.map a.eval).toArray)) w := by
  obtain ⟨dst, op, ty, pos, after, guard⟩ := o
  simp only at hop
  subst hop
  simp only [execOp, resolve, hev, Deferred.ofValue, Sem.run_bind, Sem.run_pure, Result.andThen_ok, invoke]
  rw [hc.1]
  congr 2
  apply Array.ext'
  simp
 rw [hrun]
 have hlk1 : mlook (mset st'.mem i (.arr esz es true)) i = some (.arr esz es true) := by rw [mlook_mset, if_pos rfl]
 have hi : Imms F1 w (args.toList.map a.eval) xs := by
  have hall : ∀ x ∈ xs, x.noref = true := by
   clear hxs hc
   induction xs with
   | nil => intro x hx; cases hx
   | cons y ys ih =>
     simp only [AV.norefs, Bool.and_eq_true] at hn
     intro x hx
     rcases List.mem_cons.1 hx with rfl | hx
     ·exact hn.1
     ·exact ih hn.2 x hx
  subst hxs
  refine ⟨by simp, fun j h1 h2 => ?_⟩
  have hj : j < args.toList.length := by simpa using h1
  have hr : RV G F1 (mset st'.mem i (.arr esz es true)) w (a.eval args.toList[j]) (AV.deep (snap [(i, .arr esz es true)]) (od fr st true args.toList[j])) := by
   have h0 := (s.eval args.toList[j]).unopt
   have he := hod args.toList[j] (.inr (List.getElem_mem hj))
   unfold od at he ⊢
   rw [he] at h0
   exact (h0.step S1 fun _ _ => trivial).deep fun v y h => snap_one (fz := true) hlk1 (fun v y h => h.snap hm1) h
  simp only [List.getElem_map]
  exact hr.imm_of (hall _ (by exact List.mem_map.2 ⟨_, List.getElem_mem hj, rfl⟩))
 refine ⟨fun h => by simp [fc, Fence.wide] at h, callsIn_fc ((hc.2 F1 w _ hm1.fok hi).mono ?_)⟩
 rintro e w' ⟨v, F', rfl, hv, g⟩
 obtain ⟨hm', S'⟩ := simM_grown hm1 g
 obtain ⟨s1, S2⟩ := s.put (d := o.dst) (r := ⟨r, some (i, .arr esz es true)⟩) (u := v) hm' (fun _ => rfl) (S1.trans S') hd (.imm hv)
 exact h G _ _ w' s1 S2 (fun _ _ h => h)
end
end Go.Avl
namespace Go.Avl
open Go Go.Proofs.Try
set_option maxRecDepth 10000
set_option linter.unusedSimpArgs false
structure TG (t : Mach) : Prop where
 ins : 1 ≤ t.ins ∧ t.ins ≤ 16
 rows : 1 ≤ t.rows.length ∧ t.rows.length ≤ 65537
 row : ∀ (i : Nat) (r : Row), t.rows[i]? = some r → (r.2.length : Int) = t.ins ∧ ∀ e ∈ r.2, e.1 = -1 ∨ (1 ≤ e.1 ∧ e.1 < t.rows.length)
theorem TV.tg {t : Mach} (v : TV t) : TG t := ⟨v.ins, v.rows, fun i r h => ⟨(v.row i r h).1, fun e he => by
 rcases (v.row i r h).2 e he with h1 | h1
 ·exact .inl h1.1
 ·exact .inr ⟨by omega, h1.2.1⟩⟩⟩
theorem TG.get {t : Mach} (v : TG t) {n i : Nat} (hn : n < t.rows.length) (hi : (i : Int) < t.ins) : ∃ A : Row, t.rows[n]? = some A ∧ (A.2.length : Int) = t.ins ∧ A.2[i]? = some (eT t n i) ∧ ((eT t n i).1 = -1 ∨ (1 ≤ (eT t n i).1 ∧ (eT t n i).1 < t.rows.length)) := by
 have hg : t.rows[n]? = some (t.rows[n]) := List.getElem?_eq_getElem hn
 have hl := v.row n _ hg
 have he : (t.rows[n]).2[i]? = some (eT t n i) := by
  rw [eT, hg]
  simp only [Option.map_some, Option.getD_some]
  rw [List.getElem?_eq_getElem (by omega)]; rfl
 exact ⟨t.rows[n], hg, hl.1, he, hl.2 _ (List.mem_of_getElem? he)⟩
structure WS where
 seen : List Bool
 out : List (List Nat)
 many : Nat
def WS.has (s : WS) (n : Nat) : Bool := (s.seen[n]?).getD false
def WS.wd (s : WS) (n : Nat) : List Nat := (s.out[n]?).getD []
def WS.put (s : WS) (to n i : Nat) : WS := ⟨s.seen.set to true, s.out.set to (s.wd n ++ [i]), s.many + 1⟩
def wE (t : Mach) (r n : Nat) : Nat → Nat → WS → Option WS
 | 0, _, s => some s
 | d + 1, i, s => if s.has n = true ∧ (s.wd n).length = r then
     if (eT t n i).1 = -1 then wE t r n d (i + 1) s
     else if s.has (eT t n i).1.toNat = true then none
     else wE t r n d (i + 1) (s.put (eT t n i).1.toNat n i)
   else some s
def wN (t : Mach) (r : Nat) : Nat → Nat → WS → Option WS
 | 0, _, s => some s
 | d + 1, n, s => match wE t r n t.ins.toNat 0 s with
   | none => none
   | some s' => wN t r d (n + 1) s'
def wR (t : Mach) : Nat → Nat → WS → Option WS
 | 0, _, s => some s
 | d + 1, r, s => match wN t r t.rows.length 0 s with
   | none => none
   | some s' => if s'.many = s.many then some s' else wR t d (r + 1) s'
def ws0 (N : Nat) : WS := ⟨(List.replicate N false).set 0 true, List.replicate N [], 1⟩
def wordsR (t : Mach) : Option (List (List Nat)) := match wR t t.rows.length 0 (ws0 t.rows.length) with
 | none => none
 | some s => if s.many < t.rows.length then none else some s.out
structure WS.Ok (s : WS) (N : Nat) : Prop where
 seen : s.seen.length = N
 out : s.out.length = N
 many : s.many = s.seen.countP (fun b => b)
 le : ∀ w ∈ s.out, w.length ≤ N
theorem WS.Ok.le_many {s : WS} {N : Nat} (h : s.Ok N) : s.many ≤ N := by
 rw [h.many, ← h.seen]; exact List.countP_le_length
theorem WS.Ok.has_get {s : WS} {N n : Nat} (h : s.Ok N) (hn : n < N) : s.seen[n]? = some (s.has n) := by
 unfold WS.has
 rw [List.getElem?_eq_getElem (by rw [h.seen]; exact hn)]; rfl
theorem WS.Ok.wd_get {s : WS} {N n : Nat} (h : s.Ok N) (hn : n < N) : s.out[n]? = some (s.wd n) := by
 unfold WS.wd
 rw [List.getElem?_eq_getElem (by rw [h.out]; exact hn)]; rfl
theorem WS.Ok.wd_le {s : WS} {N n : Nat} (h : s.Ok N) : (s.wd n).length ≤ N := by
 unfold WS.wd
 cases hk : s.out[n]? with
 | none => simp
 | some w => exact h.le w (List.mem_of_getElem? hk)
theorem ws0_ok {N : Nat} (h : 1 ≤ N) : (ws0 N).Ok N := by
 refine ⟨by simp [ws0], by simp [ws0], ?_, fun w hw => ?_⟩
 ·obtain ⟨M, rfl⟩ : ∃ M, N = M + 1 := ⟨N - 1, by omega⟩
  unfold ws0
  simp only [List.replicate_succ, List.set_cons_zero, List.countP_cons, List.countP_replicate]
  simp
 ·rw [List.eq_of_mem_replicate hw]; simp
theorem WS.Ok.put {s : WS} {N to n i : Nat} (h : s.Ok N) (ht : to < N) (hs : s.has to = false) (hl : (s.wd n).length < N) : (s.put to n i).Ok N := by
 refine ⟨by simp [WS.put, h.seen], by simp [WS.put, h.out], ?_, fun w hw => ?_⟩
 ·have h1 := h.has_get ht
  rw [hs] at h1
  have h2 : s.seen[to]'(by rw [h.seen]; exact ht) = false := by
   rw [List.getElem?_eq_getElem (by rw [h.seen]; exact ht)] at h1
   exact Option.some.inj h1
  simp only [WS.put]
  rw [List.countP_set (by rw [h.seen]; exact ht), h2, h.many]
  simp
 ·rcases List.mem_or_eq_of_mem_set hw with h1 | h1
  ·exact h.le w h1
  ·rw [h1]; simp; omega
def bC (b : Bool) : List AV := [.sc (.bool b)]
def wCp (w : List Nat) : Cp := if w = [] then .zer else .unk
def wA (w : List Nat) : List AV := [.sl w.isEmpty (w.map natC) (wCp w)]
def wordsA : Option (List (List Nat)) → AV
 | none => .sl true [] .unk
 | some l => .sl false (l.map wA) .full
attribute [go_sem] wordsA
theorem norefs_bC (l : List Bool) : (l.map bC).all AV.norefs = true := by simp [List.all_eq_true, bC, AV.norefs, AV.noref]
theorem norefs_wA (l : List (List Nat)) : (l.map wA).all AV.norefs = true := by
 simp only [List.all_eq_true, List.mem_map]
 rintro _ ⟨w, _, rfl⟩
 rfl
end Go.Avl
namespace Go.Avl
open Go Go.Proofs.Try
set_option maxRecDepth 10000
set_option linter.unusedSimpArgs false
set_option maxHeartbeats 8000000 in
theorem words56_is {t : Mach} (v : TG t) : PureIs prog 56 [.ag t.cells] (wordsA (wordsR t)) := by
 have hrw := v.rows
 have hin := v.ins
 obtain ⟨N, hN⟩ : ∃ N, N = t.rows.length := ⟨_, rfl⟩
 have hNi : ((N : Int)).toNat = N := Int.toNat_natCast N
 have hr0 : room N 8 = true := by simp only [room_eq, decide_eq_true_eq]; omega
 have hr1 : room N 24 = true := by simp only [room_eq, decide_eq_true_eq]; omega
 have hr2 : room N 1 = true := by simp only [room_eq, decide_eq_true_eq]; omega
 have dz := decide_eq_false (show ¬ (N : Int) = 0 by omega)
 have hW : ∀ s, wR t N 0 (ws0 N) = some s → wordsR t = if s.many < N then none else some s.out := fun s h => by unfold wordsR; rw [← hN, h]
 have hW0 : wR t N 0 (ws0 N) = none → wordsR t = none := fun h => by unfold wordsR; rw [← hN, h]
 generalize wordsR t = Wres at hW hW0
 refine PureIs.of (nv := 11) (hid := [14, 18, 22, 29, 37, 58, 71, 75, 95, 100]) func56 rfl (by kernel_rfl) (by simp [ntmps56]) fun _ => ?_
 rw [ntmps56, results56]
 refine EvC.seq (EvC.rg (by simp only [go_sem, Mach.cells] <;> rfl) (by simp) ?_)
 refine EvC.frzB 0 (by simp only [go_sem] <;> rfl) ?_
 refine EvC.seq ?_
 refine EvC.seq (EvC.rg (by simp only [go_sem, List.length_map, hN.symm, dz] <;> rfl) (by simp) ?_)
 refine EvC.cond_false (by simp only [go_sem] <;> rfl) ?_
 refine EvC.skip ?_
 refine EvC.seq (EvC.rg (by simp only [go_sem, List.length_map, hN.symm, hNi] <;> rfl) (by simp; exact hr1) ?_)
 refine EvC.seq (EvC.rg (by simp only [go_sem, List.length_map, hN.symm, hNi] <;> rfl) (by simp; exact hr2) ?_)
 have hrep : (List.replicate N [AV.sc (.bool false)])[0]? = some [.sc (.bool false)] := by rw [List.getElem?_replicate, if_pos (by omega)]
 refine EvC.seq (EvC.rg (by simp only [go_sem, hrep, List.length_replicate] <;> rfl) (by simp; try omega) ?_)
 refine EvC.seq (EvC.rg (by simp only [go_sem] <;> rfl) (by simp) ?_)
 refine EvC.seq ?_
 refine EvC.seq (EvC.rg (by simp only [go_sem] <;> rfl) (by simp) ?_)
 refine EvC.block ?_
 refine EvC.loopS (σ := Nat × WS) (fun g => ⟨[(1, .ia t.cells), (3, .tv 0 N 0 N (.val N)), (4, .tv 1 N 0 N (.val N)), (5, .sc (.int .i64 g.2.many)), (6, .sc (.int .i64 g.1))], [], [(0, .arr 1 (g.2.out.map wA) false), (1, .arr 1 (g.2.seen.map bC) false)], 2⟩) (fun g => N - g.1)
  (fun g => g.1 ≤ N ∧ g.2.Ok N ∧ wR t N 0 (ws0 N) = wR t (N - g.1) g.1 g.2) [1, 3, 4, 5, 6] 2 ?_ ?_
 ·refine ⟨[(9, 0), (14, 1)], (0, ws0 N), rfl, ?_, Nat.zero_le _, ws0_ok (by omega), rfl⟩
  have hw0 : ((ws0 N).out).map wA = List.replicate N [.sl true [] .zer] := by simp only [ws0, List.map_replicate]; rfl
  have hb0 : ((ws0 N).seen).map bC = (List.replicate N [AV.sc (.bool false)]).set 0 [.sc (.bool true)] := by simp only [ws0, List.map_set, List.map_replicate]; rfl
  have hm0 : (ws0 N).many = 1 := rfl
  simp only
  rw [hw0, hb0, hm0]
  have hnz : (List.replicate N [AV.sl true [] .zer]).all AV.norefs = true := by simp [List.all_eq_true, AV.norefs, AV.noref]
  have hnb : ((List.replicate N [AV.sc (.bool false)]).set 0 [.sc (.bool true)]).all AV.norefs = true := by
   rw [← hb0]; exact norefs_bC _
  simp only [go_sem, Mach.cells, hnz, hnb] <;> rfl
 rintro ⟨r, s⟩ ⟨h1, h2, h3⟩
 simp only at h1 h2 h3 ⊢
 have hmany := h2.le_many
 refine EvC.seq ?_
 refine EvC.seq (EvC.rg (by simp only [go_sem, Mach.cells, List.length_map, hN.symm] <;> rfl) (by simp) ?_)
 refine EvC.cond (by simp only [go_sem] <;> rfl) (fun hc => ?_) (fun hc => ?_)
 rotate_left
 ·
  have hc : ¬ r < N := by simpa using hc
  obtain rfl : r = N := by omega
  rw [Nat.sub_self, wR] at h3
  have hW := hW _ h3
  refine EvC.exit ?_
  refine EvC.seq ?_
  refine EvC.seq (EvC.rg (by simp only [go_sem, Mach.cells, List.length_map, hN.symm] <;> rfl) (by simp) ?_)
  by_cases hq : s.many < r
  ·rw [if_pos hq] at hW
   subst hW
   refine EvC.cond_true (by simp only [go_sem, decide_eq_true (show (s.many : Int) < r by omega)] <;> rfl) ?_
   refine EvC.seq (EvC.rg (by simp only [go_sem] <;> rfl) (by simp) ?_)
   refine EvC.ret ⟨.inl rfl, _, (by simp only [go_sem] <;> rfl), ?_, rfl⟩
   simp only [go_sem]
  rw [if_neg hq] at hW
  subst hW
  refine EvC.cond_false (by simp only [go_sem, decide_eq_false (show ¬ (s.many : Int) < r by omega)] <;> rfl) ?_
  refine EvC.skip ?_
  refine EvC.frz 0 (by simp only [go_sem, List.length_map, h2.out, norefs_wA] <;> rfl) ?_
  refine EvC.seq (EvC.rg (by simp only [go_sem] <;> rfl) (by simp) ?_)
  refine EvC.ret ⟨.inl rfl, _, (by simp only [go_sem] <;> rfl), ?_, rfl⟩
  simp only [go_sem]
 have hrN : r < N := by simpa using hc
 clear hc
 have hd : N - r = (N - (r + 1)) + 1 := by omega
 rw [hd, wR] at h3
 refine EvC.skip ?_
 refine EvC.seq ?_
 refine EvC.block ?_
 refine EvC.seq (EvC.rg (by simp only [go_sem] <;> rfl) (by simp) ?_)
 refine EvC.seq ?_
 refine EvC.seq (EvC.rg (by simp only [go_sem] <;> rfl) (by simp) ?_)
 refine EvC.block ?_
 obtain ⟨s0, hs0⟩ : ∃ s0, s0 = s := ⟨_, rfl⟩
 refine EvC.loopS (σ := Nat × WS) (fun g => ⟨[(1, .ia t.cells), (3, .tv 0 N 0 N (.val N)), (4, .tv 1 N 0 N (.val N)), (5, .sc (.int .i64 g.2.many)), (6, .sc (.int .i64 r)), (7, .sc (.int .i64 s0.many)), (8, .sc (.int .i64 g.1))], [], [(0, .arr 1 (g.2.out.map wA) false), (1, .arr 1 (g.2.seen.map bC) false)], 2⟩) (fun g => N - g.1)
  (fun g => g.1 ≤ N ∧ g.2.Ok N ∧ wN t r t.rows.length 0 s0 = wN t r (N - g.1) g.1 g.2) [1, 3, 4, 5, 6, 7, 8] 2 ?_ ?_
 ·refine ⟨[(0, 0), (1, 1)], (0, s), rfl, ?_, Nat.zero_le _, h2, by rw [hs0, hN]; rfl⟩
  subst hs0
  simp only [go_sem, norefs_bC, norefs_wA] <;> rfl
 rw [← hs0] at h3
 clear hs0 h2 s hmany
 rintro ⟨n, s⟩ ⟨g1, h2, g3⟩
 simp only at g1 h2 g3 ⊢
 have hmany := h2.le_many
 refine EvC.seq ?_
 refine EvC.seq (EvC.rg (by simp only [go_sem, Mach.cells, List.length_map, hN.symm] <;> rfl) (by simp) ?_)
 refine EvC.cond (by simp only [go_sem] <;> rfl) (fun hc => ?_) (fun hc => ?_)
 rotate_left
 ·
  have hc : ¬ n < N := by simpa using hc
  obtain rfl : n = N := by omega
  rw [Nat.sub_self, wN] at g3
  rw [g3] at h3
  refine EvC.exit ?_
  refine EvC.seq (EvC.rg (by simp only [go_sem] <;> rfl) (by simp) ?_)
  simp only at h3
  by_cases hq : s.many = s0.many
  ·rw [if_pos hq] at h3
   refine EvC.cond_true (by simp only [go_sem, decide_eq_true (show (s.many : Int) = s0.many by omega)] <;> rfl) ?_
   refine EvC.exit ?_
   have hW := hW _ h3
   refine EvC.seq ?_
   refine EvC.seq (EvC.rg (by simp only [go_sem, Mach.cells, List.length_map, hN.symm] <;> rfl) (by simp) ?_)
   by_cases hq : s.many < n
   ·rw [if_pos hq] at hW
    subst hW
    refine EvC.cond_true (by simp only [go_sem, decide_eq_true (show (s.many : Int) < n by omega)] <;> rfl) ?_
    refine EvC.seq (EvC.rg (by simp only [go_sem] <;> rfl) (by simp) ?_)
    refine EvC.ret ⟨.inl rfl, _, (by simp only [go_sem] <;> rfl), ?_, rfl⟩
    simp only [go_sem]
   rw [if_neg hq] at hW
   subst hW
   refine EvC.cond_false (by simp only [go_sem, decide_eq_false (show ¬ (s.many : Int) < n by omega)] <;> rfl) ?_
   refine EvC.skip ?_
   refine EvC.frz 0 (by simp only [go_sem, List.length_map, h2.out, norefs_wA] <;> rfl) ?_
   refine EvC.seq (EvC.rg (by simp only [go_sem] <;> rfl) (by simp) ?_)
   refine EvC.ret ⟨.inl rfl, _, (by simp only [go_sem] <;> rfl), ?_, rfl⟩
   simp only [go_sem]
  rw [if_neg hq] at h3
  refine EvC.cond_false (by simp only [go_sem, decide_eq_false (show ¬ (s.many : Int) = s0.many by omega)] <;> rfl) ?_
  refine EvC.skip ?_
  refine EvC.rg (by simp only [go_sem] <;> rfl) (by exact inI64_of (by omega) (by omega)) ?_
  exact ⟨[(0, 0), (1, 1)], (r + 1, s), rfl, (by simp only [go_sem, Int.natCast_add, Int.natCast_one, norefs_bC, norefs_wA] <;> rfl), ⟨hrN, h2, h3⟩, by simp only; omega⟩
 have hnN : n < N := by simpa using hc
 clear hc
 have hd2 : N - n = (N - (n + 1)) + 1 := by omega
 rw [hd2, wN] at g3
 refine EvC.skip ?_
 refine EvC.seq ?_
 refine EvC.block ?_
 refine EvC.seq (EvC.rg (by simp only [go_sem] <;> rfl) (by simp) ?_)
 refine EvC.block ?_
 obtain ⟨s1, hs1⟩ : ∃ s1, s1 = s := ⟨_, rfl⟩
 refine EvC.loopS (σ := Nat × WS) (fun g => ⟨[(1, .ia t.cells), (3, .tv 0 N 0 N (.val N)), (4, .tv 1 N 0 N (.val N)), (5, .sc (.int .i64 g.2.many)), (6, .sc (.int .i64 r)), (7, .sc (.int .i64 s0.many)), (8, .sc (.int .i64 n)), (9, .sc (.int .i64 g.1))], [], [(0, .arr 1 (g.2.out.map wA) false), (1, .arr 1 (g.2.seen.map bC) false)], 2⟩) (fun g => t.ins.toNat - g.1)
  (fun g => (g.1 : Int) ≤ t.ins ∧ g.2.Ok N ∧ wE t r n t.ins.toNat 0 s1 = wE t r n (t.ins.toNat - g.1) g.1 g.2) [1, 3, 4, 5, 6, 7, 8, 9] 2 ?_ ?_
 ·refine ⟨[(0, 0), (1, 1)], (0, s), rfl, ?_, by simp only; omega, h2, by rw [hs1]; rfl⟩
  simp only [go_sem, norefs_bC, norefs_wA] <;> rfl
 rw [← hs1] at g3
 clear hs1 h2 s hmany
 rintro ⟨i, s⟩ ⟨f1, h2, f3⟩
 simp only at f1 h2 f3 ⊢
 have hmany := h2.le_many
 have hnin : (n : Int).toNat = n := Int.toNat_natCast n
 have hiin : (i : Int).toNat = i := Int.toNat_natCast i
 have hgs : (s.seen.map bC)[n]? = some (bC (s.has n)) := by rw [List.getElem?_map, h2.has_get hnN]; rfl
 have hgo : (s.out.map wA)[n]? = some (wA (s.wd n)) := by rw [List.getElem?_map, h2.wd_get hnN]; rfl
 have hls : (s.seen.map bC).length = N := by rw [List.length_map, h2.seen]
 have hlo : (s.out.map wA).length = N := by rw [List.length_map, h2.out]
 have hwl := h2.wd_le (n := n)
 refine EvC.seq ?_
 apply EvC.seq
 apply EvC.trd
 ·simp only [go_sem, Mach.cells, hgs, hgo, hls, hlo, hnin, bC, wA, List.length_map] <;> rfl
 ·simp; try omega
 by_cases c1 : (i : Int) < t.ins
 rotate_left
 ·have d1 := decide_eq_false c1
  rw [show t.ins.toNat - i = 0 by omega, wE] at f3
  rw [f3] at g3
  refine EvC.cond_false (by simp only [go_sem, d1] <;> rfl) ?_
  refine EvC.exit ?_
  refine EvC.rg (by simp only [go_sem] <;> rfl) (by exact inI64_of (by omega) (by omega)) ?_
  exact ⟨[(0, 0), (1, 1)], (n + 1, s), rfl, (by simp only [go_sem, Int.natCast_add, Int.natCast_one, norefs_bC, norefs_wA] <;> rfl), ⟨hnN, h2, g3⟩, by simp only; omega⟩
 have d1 := decide_eq_true c1
 rw [show t.ins.toNat - i = (t.ins.toNat - (i + 1)) + 1 by omega, wE] at f3
 cases c2 : s.has n with
 | false =>
   rw [c2, if_neg (by simp)] at f3
   rw [f3] at g3
   refine EvC.cond_false (by simp only [go_sem, d1, c2] <;> rfl) ?_
   refine EvC.exit ?_
   refine EvC.rg (by simp only [go_sem] <;> rfl) (by exact inI64_of (by omega) (by omega)) ?_
   exact ⟨[(0, 0), (1, 1)], (n + 1, s), rfl, (by simp only [go_sem, Int.natCast_add, Int.natCast_one, norefs_bC, norefs_wA] <;> rfl), ⟨hnN, h2, g3⟩, by simp only; omega⟩
 | true =>
 rw [c2] at f3
 by_cases c3 : (s.wd n).length = r
 rotate_left
 ·rw [if_neg (fun h => c3 h.2)] at f3
  rw [f3] at g3
  refine EvC.cond_false (by simp only [go_sem, d1, c2, decide_eq_false (show ¬ ((s.wd n).length : Int) = r by omega)] <;> rfl) ?_
  refine EvC.exit ?_
  refine EvC.rg (by simp only [go_sem] <;> rfl) (by exact inI64_of (by omega) (by omega)) ?_
  exact ⟨[(0, 0), (1, 1)], (n + 1, s), rfl, (by simp only [go_sem, Int.natCast_add, Int.natCast_one, norefs_bC, norefs_wA] <;> rfl), ⟨hnN, h2, g3⟩, by simp only; omega⟩
 rw [if_pos ⟨rfl, c3⟩] at f3
 refine EvC.cond_true (by simp only [go_sem, d1, c2, decide_eq_true (show ((s.wd n).length : Int) = r by omega)] <;> rfl) ?_
 refine EvC.skip ?_
 refine EvC.seq ?_
 refine EvC.block ?_
 obtain ⟨A, hA, hAl, hAi, hto⟩ := v.get (n := n) (i := i) (by omega) c1
 have hwE := f3
 generalize hx : eT t n i = x at hAi hto f3
 obtain ⟨e1, e2⟩ := x
 simp only at hto f3
 refine EvC.seq (EvC.rg (by simp only [go_sem, Mach.cells, hA, hAi, hnin, hiin, rowC, edgeC, List.length_map] <;> rfl) (by simp; try omega) ?_)
 refine EvC.seq ?_
 refine EvC.seq (EvC.rg (by simp only [go_sem] <;> rfl) (by simp) ?_)
 by_cases c4 : e1 = -1
 ·rw [if_pos c4] at f3
  refine EvC.cond_true (by simp only [go_sem, decide_eq_true c4] <;> rfl) ?_
  refine EvC.exit ?_
  refine EvC.rg (by simp only [go_sem] <;> rfl) (by exact inI64_of (by omega) (by omega)) ?_
  exact ⟨[(0, 0), (1, 1)], (i + 1, s), rfl, (by simp only [go_sem, Mach.cells, Int.natCast_add, Int.natCast_one, norefs_bC, norefs_wA] <;> rfl), ⟨by simp only; omega, h2, f3⟩, by simp only; omega⟩
 rw [if_neg c4] at f3
 refine EvC.cond_false (by simp only [go_sem, decide_eq_false c4] <;> rfl) ?_
 refine EvC.skip ?_
 obtain ⟨k, rfl⟩ : ∃ k : Nat, e1 = (k : Int) := ⟨e1.toNat, by omega⟩
 have hkN : k < N := by omega
 have hkin : (k : Int).toNat = k := Int.toNat_natCast k
 rw [hkin] at f3
 have hgk : (s.seen.map bC)[k]? = some (bC (s.has k)) := by rw [List.getElem?_map, h2.has_get hkN]; rfl
 have hgk2 : (s.out.map wA)[k]? = some (wA (s.wd k)) := by rw [List.getElem?_map, h2.wd_get hkN]; rfl
 refine EvC.seq ?_
 refine EvC.seq (EvC.rg (by simp only [go_sem, hgk, hls, hkin, bC] <;> rfl) (by simp; try omega) ?_)
 cases c5 : s.has k with
 | true =>
   rw [c5, if_pos rfl] at f3
   rw [f3] at g3
   simp only at g3
   rw [g3] at h3
   simp only at h3
   have hW0 := hW0 h3
   subst hW0
   refine EvC.cond_true (by simp only [go_sem, c5] <;> rfl) ?_
   refine EvC.seq (EvC.rg (by simp only [go_sem] <;> rfl) (by simp) ?_)
   refine EvC.ret ⟨.inl rfl, _, (by simp only [go_sem] <;> rfl), ?_, rfl⟩
   simp only [go_sem]
 | false =>
 rw [c5, if_neg (by simp)] at f3
 refine EvC.cond_false (by simp only [go_sem, c5] <;> rfl) ?_
 refine EvC.skip ?_
 refine EvC.seq (EvC.rg (by simp only [go_sem, hgk, hls, hkin, bC] <;> rfl) (by simp; try omega) ?_)
 have hput := h2.put (n := n) (i := i) hkN c5 (by omega)
 have hpm : (((s.put k n i).many : Nat) : Int) = (s.many : Int) + 1 := rfl
 have hset : ∀ x, ((s.out.map wA).set k x)[k]? = some x := fun x => by rw [List.getElem?_set, if_pos rfl, if_pos (by omega)]
 have hps : (s.seen.map bC).set k [.sc (.bool true)] = (s.put k n i).seen.map bC := by simp only [WS.put, List.map_set]; rfl
 have hpo : (s.out.map wA).set k [.sl false ((s.wd n ++ [i]).map natC) .unk] = (s.put k n i).out.map wA := by
  simp only [WS.put, List.map_set, wA, wCp]
  rw [if_neg (by simp)]
  have : (s.wd n ++ [i]).isEmpty = false := by simp
  rw [this]
 by_cases hx0 : s.wd n = []
 ·have hgo2 : (s.out.map wA)[n]? = some [.sl true [] .zer] := by rw [hgo, hx0]; rfl
  apply EvC.seq
  apply EvC.tr
  ·apply Tr.cons
   ·exact .op rfl (by simp only [go_sem] <;> rfl) (by simp only [go_sem] <;> rfl) rfl (by simp only [go_sem] <;> rfl)
   apply Tr.cons
   ·exact .op rfl (by simp only [go_sem] <;> rfl) (by simp only [go_sem] <;> rfl) rfl (by simp only [go_sem] <;> rfl)
   apply Tr.cons
   ·exact .op rfl (by simp only [go_sem] <;> rfl) (by simp only [go_sem] <;> rfl) rfl (by simp only [go_sem] <;> rfl)
   apply Tr.cons
   ·exact .op rfl (by simp only [go_sem] <;> rfl) (by simp only [go_sem] <;> rfl) rfl (by simp only [go_sem] <;> rfl)
   apply Tr.cons
   ·exact .op rfl (by simp only [go_sem] <;> rfl) (by simp only [go_sem] <;> rfl) rfl (by simp only [go_sem] <;> rfl)
   apply Tr.cons
   ·exact .op rfl (by simp only [go_sem] <;> rfl) (by simp only [go_sem, hnin, hgo2, hlo] <;> rfl) (by simp; try omega) (by simp only [go_sem] <;> rfl)
   apply Tr.cons
   ·exact .op rfl (by simp only [go_sem] <;> rfl) (by simp only [go_sem, hnin, hgo2, hlo] <;> rfl) (by simp; try omega) (by simp only [go_sem] <;> rfl)
   apply Tr.cons
   ·exact .appZ rfl rfl (by simp only [go_sem] <;> rfl) (by simp only [go_sem] <;> rfl) (by simp only [go_sem] <;> rfl) (by simp only [go_sem] <;> rfl) (by simp only [go_sem] <;> rfl) (by simp only [go_sem] <;> rfl) (by simp only [go_sem] <;> rfl)
   apply Tr.done
   ·simp only [go_sem, hkin, hgk2, hlo, wA] <;> rfl
   ·simp [room_eq]; exact hkN
  refine EvC.frz 51 (by simp only [go_sem] <;> rfl) ?_
  refine EvC.snapE 0 k (by simp only [go_sem, hset] <;> rfl) ?_
  have hr5 : room 1 8 = true := by simp [room_eq]
  rw [hx0, List.nil_append] at hpo
  have hpo2 : ((s.out.map wA).set k [.sl false [[.sc (.int .i64 i)]] .unk]) = (s.put k n i).out.map wA := hpo
  refine EvC.rg (by simp only [go_sem] <;> rfl) (by exact inI64_of (by omega) (by omega)) ?_
  refine EvC.rg (by simp only [go_sem] <;> rfl) (by exact inI64_of (by omega) (by omega)) ?_
  refine ⟨[(0, 0), (1, 1)], (i + 1, s.put k n i), rfl, ?_, ⟨by simp only; omega, hput, f3⟩, by simp only; omega⟩
  have hno := norefs_wA (s.put k n i).out
  have hnb := norefs_bC (s.put k n i).seen
  rw [← hpo2] at hno
  rw [← hps] at hnb
  simp only
  rw [← hpo2, ← hps]
  simp only [go_sem, Mach.cells, hpm, List.set_set, Int.natCast_add, Int.natCast_one, hno, hnb] <;> rfl
 have hx0l : (s.wd n).length ≠ 0 := fun h => hx0 (List.length_eq_zero_iff.1 h)
 have hx0e : (s.wd n).isEmpty = false := by cases hw : s.wd n with
  | nil => exact absurd hw hx0
  | cons _ _ => rfl
 have hgo2 : (s.out.map wA)[n]? = some [.sl false ((s.wd n).map natC) .unk] := by rw [hgo, wA, hx0e, wCp, if_neg hx0]
 obtain ⟨w, hw⟩ : ∃ w, w = s.wd n ++ [i] := ⟨_, rfl⟩
 have hsn : (s.wd n).map natC ++ [[.sc (.int .i64 i)]] = w.map natC := by rw [hw]; simp [natC]
 have hsl : (s.wd n).length + 1 = w.length := by rw [hw]; simp
 have hy : ∀ a ∈ s.wd n, (natC a).length = 1 := fun _ _ => rfl
 have hr3 : room (s.wd n).length 8 = true := by simp only [room_eq, decide_eq_true_eq]; omega
 have hr4 : room w.length 8 = true := by simp only [room_eq, decide_eq_true_eq]; omega
 refine EvC.seq (EvC.rg (by simp only [go_sem, hgo2, hgk2, hnin, hkin, hlo, hsn, hsl, wA, List.drop_succ_cons, List.drop_zero, List.length_map] <;> rfl) (by simp; exact ⟨⟨⟨hnN, hr3, hy⟩, hr4⟩, hkN⟩) ?_)
 refine EvC.frz 48 (by simp only [go_sem, List.length_map] <;> rfl) ?_
 refine EvC.snapE 0 k (by simp only [go_sem, hset, List.length_map] <;> rfl) ?_
 rw [← hw] at hpo
 refine EvC.rg (by simp only [go_sem] <;> rfl) (by exact inI64_of (by omega) (by omega)) ?_
 refine EvC.rg (by simp only [go_sem] <;> rfl) (by exact inI64_of (by omega) (by omega)) ?_
 refine ⟨[(0, 0), (1, 1)], (i + 1, s.put k n i), rfl, ?_, ⟨by simp only; omega, hput, f3⟩, by simp only; omega⟩
 have hno := norefs_wA (s.put k n i).out
 have hnb := norefs_bC (s.put k n i).seen
 rw [← hpo] at hno
 rw [← hps] at hnb
 simp only
 rw [← hpo, ← hps]
 simp only [go_sem, Mach.cells, hpm, List.set_set, Int.natCast_add, Int.natCast_one, hno, hnb] <;> rfl
end Go.Avl
namespace Go.Avl
open Go Go.Proofs.Try
set_option maxRecDepth 10000
set_option linter.unusedSimpArgs false
def wT (t : Mach) : Nat → Nat → List Nat
 | 0, _ => []
 | d + 1, n => if n = 0 then [] else wT t d (parT t n).1 ++ [(parT t n).2]
def wordN (t : Mach) (n : Nat) : List Nat := wT t n n
theorem wordN_zero (t : Mach) : wordN t 0 = [] := rfl
theorem wT_more {t : Mach} (v : TV t) (tp : TP t) : ∀ (n d d' : Nat), n < t.rows.length → n ≤ d → n ≤ d' → wT t d n = wT t d' n := by
 intro n
 induction n using Nat.strongRecOn with
 | _ n ih =>
   intro d d' hn h1 h2
   by_cases h0 : n = 0
   ·subst h0
    cases d <;> cases d' <;> rfl
   ·have hp := parT_lt v tp (by omega) hn
    obtain ⟨d, rfl⟩ : ∃ k, d = k + 1 := ⟨d - 1, by omega⟩
    obtain ⟨d', rfl⟩ : ∃ k, d' = k + 1 := ⟨d' - 1, by omega⟩
    rw [wT, wT, if_neg h0, if_neg h0, ih _ hp.1 d d' (by omega) (by omega) (by omega)]
theorem wordN_eq {t : Mach} (v : TV t) (tp : TP t) {n : Nat} (h0 : 1 ≤ n) (hn : n < t.rows.length) : wordN t n = wordN t (parT t n).1 ++ [(parT t n).2] := by
 have hp := parT_lt v tp h0 hn
 unfold wordN
 obtain ⟨d, rfl⟩ : ∃ k, n = k + 1 := ⟨n - 1, by omega⟩
 rw [wT, if_neg (by omega), wT_more v tp _ d _ (by omega) (by omega) (Nat.le_refl _)]
theorem wordN_edge {t : Mach} (v : TV t) (tp : TP t) {p i n : Nat} (h1 : p < t.rows.length) (h2 : (i : Int) < t.ins) (h3 : (eT t p i).1 = (n : Int)) : p < n ∧ n < t.rows.length ∧ parT t n = (p, i) ∧ wordN t n = wordN t p ++ [i] := by
 have he := v.edge h1 h2
 have hpn : p < n := by omega
 have hpar := parT_eq tp hpn h2 h3
 have hw := wordN_eq v tp (n := n) (by omega) (by omega)
 rw [hpar] at hw
 exact ⟨hpn, by omega, hpar, hw⟩
theorem parT_to {t : Mach} (v : TV t) (tp : TP t) {n : Nat} (h0 : 1 ≤ n) (hn : n < t.rows.length) : (eT t (parT t n).1 (parT t n).2).1 = (n : Int) := by
 obtain ⟨p, i, k1, k2, k3⟩ := tp.has n h0 hn
 rw [parT_eq tp k1 k2 k3]; exact k3
theorem wordN_le {t : Mach} (v : TV t) (tp : TP t) : ∀ n, n < t.rows.length → (wordN t n).length ≤ n := by
 intro n
 induction n using Nat.strongRecOn with
 | _ n ih =>
   intro hn
   by_cases h0 : n = 0
   ·subst h0; simp [wordN_zero]
   ·have hp := parT_lt v tp (by omega) hn
    have := ih _ hp.1 (by omega)
    rw [wordN_eq v tp (by omega) hn]
    simp; omega
structure WI (t : Mach) (m0 r n i : Nat) (s : WS) : Prop where
 ok : s.Ok t.rows.length
 has : ∀ m, m < t.rows.length → (s.has m = true ↔ (wordN t m).length ≤ r ∨ (wordN t m).length = r + 1 ∧ ((parT t m).1 < n ∨ (parT t m).1 = n ∧ (parT t m).2 < i))
 wd : ∀ m, m < t.rows.length → s.has m = true → s.wd m = wordN t m
 ge : m0 ≤ s.many
 new : s.many = m0 → ∀ m, m < t.rows.length → (wordN t m).length = r + 1 → ¬ ((parT t m).1 < n ∨ (parT t m).1 = n ∧ (parT t m).2 < i)
theorem WS.has_put {s : WS} {N to n i : Nat} (h : s.Ok N) (ht : to < N) (m : Nat) : (s.put to n i).has m = if m = to then true else s.has m := by
 unfold WS.has WS.put
 simp only [List.getElem?_set]
 by_cases e : to = m
 ·subst e; rw [if_pos rfl, if_pos (by rw [h.seen]; exact ht), if_pos rfl]; rfl
 ·rw [if_neg e, if_neg (fun h => e h.symm)]
theorem WS.wd_put {s : WS} {N to n i : Nat} (h : s.Ok N) (ht : to < N) (m : Nat) : (s.put to n i).wd m = if m = to then s.wd n ++ [i] else s.wd m := by
 unfold WS.wd WS.put
 simp only [List.getElem?_set]
 by_cases e : to = m
 ·subst e; rw [if_pos rfl, if_pos (by rw [h.out]; exact ht), if_pos rfl]; rfl
 ·rw [if_neg e, if_neg (fun h => e h.symm)]
theorem WI.wE {t : Mach} (v : TV t) (tp : TP t) {m0 r n : Nat} (hr : r < t.rows.length) (hn : n < t.rows.length) : ∀ (d i : Nat) (s : WS), d + i = t.ins.toNat → WI t m0 r n i s → ∃ s', wE t r n d i s = some s' ∧ WI t m0 r (n + 1) 0 s'
 | 0, i, s, hd, h => by
   have e : ∀ m, m < t.rows.length → (wordN t m).length = r + 1 → (((parT t m).1 < n ∨ (parT t m).1 = n ∧ (parT t m).2 < i) ↔ ((parT t m).1 < n + 1 ∨ (parT t m).1 = n + 1 ∧ (parT t m).2 < 0)) := fun m hm hl => by
    have := parT_in v tp hm
    omega
   exact ⟨s, rfl, ⟨h.ok, fun m hm => by
    rw [h.has m hm]
    constructor
    ·rintro (h1 | ⟨h1, h2⟩)
     ·exact .inl h1
     ·exact .inr ⟨h1, (e m hm h1).1 h2⟩
    ·rintro (h1 | ⟨h1, h2⟩)
     ·exact .inl h1
     ·exact .inr ⟨h1, (e m hm h1).2 h2⟩, h.wd, h.ge, fun hm0 m hm hl hq => h.new hm0 m hm hl ((e m hm hl).2 hq)⟩⟩
 | d + 1, i, s, hd, h => by
   rw [Go.Avl.wE]
   have hii : (i : Int) < t.ins := by have := v.ins; omega
   by_cases hc : s.has n = true ∧ (s.wd n).length = r
   rotate_left
   ·rw [if_neg hc]
    have hdn : (wordN t n).length ≠ r := fun e => by
     have h1 : s.has n = true := (h.has n hn).2 (.inl (by omega))
     exact hc ⟨h1, by rw [h.wd n hn h1]; exact e⟩
    have e : ∀ m, m < t.rows.length → (wordN t m).length = r + 1 → (parT t m).1 ≠ n := fun m hm hl hq => by
     have h0 : 1 ≤ m := by
      by_cases h0 : m = 0
      ·subst h0; rw [wordN_zero] at hl; simp at hl
      ·omega
     have := wordN_eq v tp h0 hm
     rw [hq] at this
     rw [this] at hl
     simp at hl
     exact hdn hl
    have e2 : ∀ m, m < t.rows.length → (wordN t m).length = r + 1 → (((parT t m).1 < n ∨ (parT t m).1 = n ∧ (parT t m).2 < i) ↔ ((parT t m).1 < n + 1 ∨ (parT t m).1 = n + 1 ∧ (parT t m).2 < 0)) := fun m hm hl => by
     have := e m hm hl
     omega
    exact ⟨s, rfl, ⟨h.ok, fun m hm => by
     rw [h.has m hm]
     constructor
     ·rintro (h1 | ⟨h1, h2⟩)
      ·exact .inl h1
      ·exact .inr ⟨h1, (e2 m hm h1).1 h2⟩
     ·rintro (h1 | ⟨h1, h2⟩)
      ·exact .inl h1
      ·exact .inr ⟨h1, (e2 m hm h1).2 h2⟩, h.wd, h.ge, fun hm0 m hm hl hq => h.new hm0 m hm hl ((e2 m hm hl).2 hq)⟩⟩
   rw [if_pos hc]
   obtain ⟨hc1, hc2⟩ := hc
   have hwn := h.wd n hn hc1
   rw [hwn] at hc2
   have eP := v.edge hn hii
   by_cases h1 : (eT t n i).1 = -1
   ·rw [if_pos h1]
    have e : ∀ m, m < t.rows.length → (wordN t m).length = r + 1 → ¬ ((parT t m).1 = n ∧ (parT t m).2 = i) := fun m hm hl hq => by
     have h0 : 1 ≤ m := by
      by_cases h0 : m = 0
      ·subst h0; rw [wordN_zero] at hl; simp at hl
      ·omega
     have := parT_to v tp h0 hm
     rw [hq.1, hq.2, h1] at this
     omega
    have e2 : ∀ m, m < t.rows.length → (wordN t m).length = r + 1 → (((parT t m).1 < n ∨ (parT t m).1 = n ∧ (parT t m).2 < i) ↔ ((parT t m).1 < n ∨ (parT t m).1 = n ∧ (parT t m).2 < i + 1)) := fun m hm hl => by
     have := e m hm hl
     omega
    exact WI.wE v tp hr hn d (i + 1) s (by omega) ⟨h.ok, fun m hm => by
     rw [h.has m hm]
     constructor
     ·rintro (h1 | ⟨h1, h2⟩)
      ·exact .inl h1
      ·exact .inr ⟨h1, (e2 m hm h1).1 h2⟩
     ·rintro (h1 | ⟨h1, h2⟩)
      ·exact .inl h1
      ·exact .inr ⟨h1, (e2 m hm h1).2 h2⟩, h.wd, h.ge, fun hm0 m hm hl hq => h.new hm0 m hm hl ((e2 m hm hl).2 hq)⟩
   ·rw [if_neg h1]
    obtain ⟨k, hk⟩ : ∃ k : Nat, (eT t n i).1 = (k : Int) := ⟨(eT t n i).1.toNat, by omega⟩
    rw [hk, Int.toNat_natCast]
    obtain ⟨k1, k2, k3, k4⟩ := wordN_edge v tp hn hii hk
    have hkl : (wordN t k).length = r + 1 := by rw [k4]; simp; omega
    have hkh : s.has k = false := by
     cases hb : s.has k with
     | false => rfl
     | true =>
       have := (h.has k k2).1 hb
       rw [k3] at this
       simp only at this
       omega
    rw [hkh, if_neg (by simp)]
    refine WI.wE v tp hr hn d (i + 1) _ (by omega) ⟨h.ok.put k2 hkh (by rw [hwn]; omega), fun m hm => ?_, fun m hm hb => ?_, by have := h.ge; simp only [WS.put]; omega, fun hm0 => by have := h.ge; simp only [WS.put] at hm0; omega⟩
    ·rw [WS.has_put h.ok k2]
     by_cases e : m = k
     ·subst e
      rw [if_pos rfl]
      refine ⟨fun _ => .inr ⟨hkl, .inr ?_⟩, fun _ => rfl⟩
      rw [k3]; exact ⟨rfl, Nat.lt_succ_self _⟩
     ·rw [if_neg e, h.has m hm]
      have e3 : (wordN t m).length = r + 1 → ¬ ((parT t m).1 = n ∧ (parT t m).2 = i) := fun hl hq => by
       have h0 : 1 ≤ m := by
        by_cases h0 : m = 0
        ·subst h0; rw [wordN_zero] at hl; simp at hl
        ·omega
       have := parT_to v tp h0 hm
       rw [hq.1, hq.2, hk] at this
       omega
      constructor
      ·rintro (h1 | ⟨h1, h2⟩)
       ·exact .inl h1
       ·exact .inr ⟨h1, by omega⟩
      ·rintro (h1 | ⟨h1, h2⟩)
       ·exact .inl h1
       ·have := e3 h1
        exact .inr ⟨h1, by omega⟩
    ·rw [WS.has_put h.ok k2] at hb
     rw [WS.wd_put h.ok k2]
     by_cases e : m = k
     ·subst e
      rw [if_pos rfl, hwn, k4]
     ·rw [if_neg e] at hb ⊢
      exact h.wd m hm hb
theorem WI.wN {t : Mach} (v : TV t) (tp : TP t) {m0 r : Nat} (hr : r < t.rows.length) : ∀ (d n : Nat) (s : WS), d + n = t.rows.length → WI t m0 r n 0 s → ∃ s', wN t r d n s = some s' ∧ WI t m0 r t.rows.length 0 s'
 | 0, n, s, hd, h => ⟨s, rfl, by rw [← hd, Nat.zero_add]; exact h⟩
 | d + 1, n, s, hd, h => by
   obtain ⟨s1, h1, h2⟩ := WI.wE v tp hr (by omega) t.ins.toNat 0 s (by omega) h
   rw [Go.Avl.wN, h1]
   exact WI.wN v tp hr d (n + 1) s1 (by omega) h2
theorem wordN_deep {t : Mach} (v : TV t) (tp : TP t) {r : Nat} (h : ∀ m, m < t.rows.length → (wordN t m).length ≠ r + 1) : ∀ m, m < t.rows.length → (wordN t m).length ≤ r := by
 intro m
 induction m using Nat.strongRecOn with
 | _ m ih =>
   intro hm
   by_cases h0 : m = 0
   ·subst h0; simp [wordN_zero]
   ·have hp := parT_lt v tp (by omega) hm
    have := ih _ hp.1 (by omega)
    have e := wordN_eq v tp (by omega) hm
    have := h m hm
    rw [e] at this ⊢
    simp at this ⊢
    omega
theorem WI.wR {t : Mach} (v : TV t) (tp : TP t) : ∀ (d r : Nat) (s : WS), d + r = t.rows.length → WI t s.many r 0 0 s → ∃ s', wR t d r s = some s' ∧ s'.Ok t.rows.length ∧ ∀ m, m < t.rows.length → s'.has m = true ∧ s'.wd m = wordN t m
 | 0, r, s, hd, h => ⟨s, rfl, h.ok, fun m hm => by
   have hl := wordN_le v tp m hm
   have hh := (h.has m hm).2 (.inl (by omega))
   exact ⟨hh, h.wd m hm hh⟩⟩
 | d + 1, r, s, hd, h => by
   obtain ⟨s1, h1, h2⟩ := WI.wN v tp (by omega) t.rows.length 0 s (by omega) h
   rw [Go.Avl.wR, h1]
   simp only
   have hend : ∀ m, m < t.rows.length → ((parT t m).1 < t.rows.length ∨ (parT t m).1 = t.rows.length ∧ (parT t m).2 < 0) := fun m hm => by
    have := parT_in v tp hm
    omega
   by_cases hm : s1.many = s.many
   ·rw [if_pos hm]
    refine ⟨s1, rfl, h2.ok, fun m hk => ?_⟩
    have hl := wordN_deep v tp (r := r) (fun m hk hl => h2.new hm m hk hl (hend m hk)) m hk
    have hh := (h2.has m hk).2 (.inl hl)
    exact ⟨hh, h2.wd m hk hh⟩
   ·rw [if_neg hm]
    refine WI.wR v tp d (r + 1) s1 (by omega) ⟨h2.ok, fun m hk => ?_, h2.wd, Nat.le_refl _, fun _ m hk hl => by omega⟩
    rw [h2.has m hk]
    have := hend m hk
    constructor
    ·rintro (h1 | ⟨h1, _⟩)
     ·exact .inl (by omega)
     ·exact .inl (by omega)
    ·rintro (h1 | ⟨h1, h3⟩)
     ·by_cases e : (wordN t m).length ≤ r
      ·exact .inl e
      ·exact .inr ⟨by omega, this⟩
     ·omega
theorem wordsR_valid {t : Mach} (v : TV t) (tp : TP t) : wordsR t = some ((List.range t.rows.length).map (wordN t)) := by
 have hrw := v.rows
 have hok := ws0_ok hrw.1
 have hhas : ∀ m, m < t.rows.length → (ws0 t.rows.length).has m = decide (m = 0) := fun m hm => by
  unfold WS.has ws0
  simp only [List.getElem?_set, List.length_replicate]
  by_cases e : m = 0
  ·subst e; rw [if_pos rfl, if_pos hm]; rfl
  ·rw [if_neg (fun h => e h.symm), List.getElem?_replicate, if_pos hm, decide_eq_false e]; rfl
 obtain ⟨s, h1, h2, h3⟩ := WI.wR v tp t.rows.length 0 (ws0 t.rows.length) (by omega) ⟨hok, fun m hm => by
  rw [hhas m hm, decide_eq_true_eq]
  constructor
  ·intro h; subst h; exact .inl (by simp [wordN_zero])
  ·rintro (h | ⟨_, h⟩)
   ·by_cases h0 : m = 0
    ·exact h0
    ·have := wordN_eq v tp (by omega) hm
     rw [this] at h
     simp at h
   ·omega, fun m hm hb => by
  rw [hhas m hm, decide_eq_true_eq] at hb
  subst hb
  rw [wordN_zero]
  unfold WS.wd ws0
  simp only [List.getElem?_replicate]
  split <;> rfl, Nat.le_refl _, fun _ m hm hl => by omega⟩
 unfold wordsR
 rw [h1]
 have hall : s.seen = List.replicate t.rows.length true := by
  apply List.ext_getElem?
  intro m
  by_cases hm : m < t.rows.length
  ·rw [h2.has_get hm, (h3 m hm).1, List.getElem?_replicate, if_pos hm]
  ·rw [List.getElem?_eq_none (by rw [h2.seen]; omega), List.getElem?_replicate, if_neg hm]
 have hmany : s.many = t.rows.length := by
  rw [h2.many, hall, List.countP_replicate]; simp
 simp only
 rw [if_neg (by omega)]
 congr 1
 apply List.ext_getElem?
 intro m
 by_cases hm : m < t.rows.length
 ·rw [h2.wd_get hm, (h3 m hm).2, List.getElem?_map, List.getElem?_range hm]; rfl
 ·rw [List.getElem?_eq_none (by rw [h2.out]; omega), List.getElem?_eq_none (by simp; omega)]
end Go.Avl
namespace Go.Avl
open Go Go.Proofs.Try
set_option maxRecDepth 10000
set_option linter.unusedSimpArgs false
theorem mergeC_end {t : Mach} (v : TV t) : ∀ (f : Nat) (c red : List Nat), IsF t c → RedOk t c red → red[0]? = some 0 → ∀ rows, mergeC t f c red = some rows →
  ∃ c' red' : List Nat, IsF t c' ∧ RedOk t c' red' ∧ red'[0]? = some 0 ∧ red'.length ≤ 64 ∧ nextC t c' red' < 0 ∧ rows = machC t c' red'
 | 0, c, red, _, _, _, rows, h => by cases h
 | f + 1, c, red, hc, hr, h0, rows, h => by
   rw [mergeC] at h
   split at h
   ·cases h
   ·rename_i hl
    split at h
    ·rename_i hn
     cases h
     exact ⟨c, red, hc, hr, h0, by omega, hn, rfl⟩
    ·rename_i hn
     obtain ⟨k1, k2, k3⟩ := next_node v hn
     split at h
     ·rename_i d hd
      obtain ⟨a1, a2⟩ := hr.absorb v hc k1 hd
      exact mergeC_end v f d red a2 a1 h0 rows h
     ·rename_i hd
      refine mergeC_end v f c _ hc (hr.push v hc k1 hd) ?_ rows h
      have := (List.getElem?_eq_some_iff.1 h0).1
      rw [List.getElem?_append_left this]; exact h0
theorem eT_machC {t m : Mach} {c red : List Nat} (hm : m.rows.map (·.2) = machC t c red) {s i : Nat} (hs : s < red.length) (hi : (i : Int) < t.ins) : eT m s i = edgeR t c red s i := by
 have h1 : (m.rows[s]?).map (·.2) = some ((List.range t.ins.toNat).map (edgeR t c red s)) := by
  rw [← List.getElem?_map, hm, machC, List.getElem?_map, List.getElem?_range hs]; rfl
 rw [eT, h1, Option.getD_some, List.getElem?_map, List.getElem?_range (by omega)]; rfl
theorem allRed {t : Mach} (tp : TP t) {c red : List Nat} (h0 : 0 ∈ red) (hn : nextC t c red < 0) {k : Nat} (hk : k < t.rows.length) : isRed c red (pU c k) = true := by
 cases h : isRed c red (pU c k) with
 | true => rfl
 | false =>
   obtain ⟨m, h1, _⟩ := cand_le tp (isRed_iff.2 ⟨0, h0, rfl⟩) k hk h
   rcases nextC_min t c red with ⟨_, h2⟩ | ⟨j, h2, _⟩
   ·exact absurd h1 (h2 m)
   ·omega
theorem placeC_in {c red : List Nat} {k : Nat} (h : isRed c red k = true) : ∃ s : Nat, s < red.length ∧ placeC c red k = (s : Int) ∧ (red.map (pU c))[s]? = some k := by
 obtain ⟨r, h1, h2⟩ := isRed_iff.1 h
 have hm : k ∈ red.map (pU c) := List.mem_map.2 ⟨r, h1, h2⟩
 have hl := List.idxOf_lt_length_of_mem hm
 refine ⟨(red.map (pU c)).idxOf k, by simpa using hl, ?_, ?_⟩
 ·rw [placeC, if_pos (by simpa using hl)]
 ·rw [List.getElem?_eq_getElem hl, List.getElem_idxOf hl]
theorem machC_fits {t m : Mach} (v : TV t) (tp : TP t) {c red : List Nat} (hc : IsF t c) (hr : RedOk t c red) (h0 : red[0]? = some 0) (hn : nextC t c red < 0) (hm : m.rows.map (·.2) = machC t c red) : FitH t m (fun n => (placeC c red (pU c n)).toNat) := by
 have h0m := hr.zero
 have hpl : ∀ n, n < t.rows.length → ∃ s : Nat, s < red.length ∧ placeC c red (pU c n) = (s : Int) ∧ (red.map (pU c))[s]? = some (pU c n) := fun n hn' => placeC_in (allRed tp h0m hn hn')
 refine ⟨?_, fun n i hn' hi => ?_⟩
 ·unfold placeC
  obtain ⟨red', rfl⟩ : ∃ l, red = 0 :: l := by
   cases red with
   | nil => cases h0
   | cons x l => cases h0; exact ⟨l, rfl⟩
  simp
 ·obtain ⟨s, h1, h2, h3⟩ := hpl n hn'
  rw [h2, Int.toNat_natCast, eT_machC hm h1 hi]
  have hrs : pU c ((red[s]?).getD 0) = pU c n := by
   rw [List.getElem?_map] at h3
   cases hx : red[s]? with
   | none => rw [hx] at h3; cases h3
   | some x => rw [hx] at h3; simpa using h3
  have hE : edgeR t c red s i = match (List.range t.rows.length).reverse.find? fun n' => decide (pU c n' = pU c n) && decide ((eT t n' i).1 ≠ -1) with
   | some n' => (placeC c red (pU c (eT t n' i).1.toNat), (eT t n' i).2)
   | none => (-1, -1) := by rw [edgeR, hrs]; all_goals rfl
  rw [hE]
  cases hf : (List.range t.rows.length).reverse.find? fun n' => decide (pU c n' = pU c n) && decide ((eT t n' i).1 ≠ -1) with
  | none =>
    rw [List.find?_eq_none] at hf
    have hx : (eT t n i).1 = -1 := by
     by_cases hx : (eT t n i).1 = -1
     ·exact hx
     ·exact absurd (by simp [hx]) (hf n (List.mem_reverse.2 (List.mem_range.2 hn')))
    refine ⟨?_, fun h => absurd hx h⟩
    unfold okB
    rw [hx]; simp
  | some q =>
    have g1 := List.find?_some hf
    have g2 := List.mem_range.1 (List.mem_reverse.1 (List.mem_of_find?_eq_some hf))
    simp only [Bool.and_eq_true, decide_eq_true_eq] at g1
    obtain ⟨g3, g4⟩ := g1
    obtain ⟨k1, k2⟩ := hc.clo q n i g3 hi
    have ht := v.to g2 hi g4
    obtain ⟨s', j1, j2, j3⟩ := hpl _ ht.2
    simp only
    unfold okE okB
    by_cases hk : knownE (eT t n i) = true
    ·rw [clashE_iff (knownE_to g4) hk] at k1
     have g5 : (eT t n i).1 ≠ -1 := fun e => g4 (k1.1.2 e)
     have e2 := k2 (bothE_iff.2 ⟨g4, g5⟩)
     refine ⟨?_, fun _ => ?_⟩
     ·simp only
      rw [j2, hk, k1.2 g4, decide_eq_false g5, decide_eq_false (show ¬ (s' : Int) = -1 by omega), decide_eq_true (rfl)]
      rfl
     ·simp only
      rw [← e2, j2, Int.toNat_natCast]
    ·have hkf : knownE (eT t n i) = false := by simpa using hk
     refine ⟨by rw [hkf]; rfl, fun h => absurd (knownE_to h) hk⟩
theorem machC_check {t m : Mach} (v : TV t) (tp : TP t) {c red : List Nat} (hr : RedOk t c red) (hl : red.length ≤ 64) (hn : nextC t c red < 0) (hi : m.ins = t.ins) (ho : m.outs = t.outs) (hm : m.rows.map (·.2) = machC t c red) : checkM m = 0 := by
 have hin := v.ins
 have hou := v.outs
 have hml : m.rows.length = red.length := by have := congrArg List.length hm; simpa [machC] using this
 have hrl : 1 ≤ red.length := by
  have := hr.zero
  cases red with
  | nil => cases this
  | cons x l => simp
 unfold checkM
 rw [if_neg (by omega), if_neg (by omega), if_pos]
 rw [List.all_eq_true]
 intro r hrm
 have h2 : r.2 ∈ machC t c red := by rw [← hm]; exact List.mem_map.2 ⟨r, hrm, rfl⟩
 unfold machC at h2
 obtain ⟨s, hs, h3⟩ := List.mem_map.1 h2
 unfold rowOk
 rw [← h3, hi, ho, hml]
 have hlen : (((List.range t.ins.toNat).map (edgeR t c red s)).length : Int) = t.ins := by simp; omega
 simp only [Bool.and_eq_true, decide_eq_true_eq]
 refine ⟨hlen, ?_⟩
 rw [Bool.not_eq_true', List.any_eq_false]
 intro e he
 obtain ⟨i, hi', rfl⟩ := List.mem_map.1 he
 simp only [Bool.not_eq_true', Bool.not_eq_false]
 have hi' := List.mem_range.1 hi'
 have hii : (i : Int) < t.ins := by omega
 unfold edgeR
 split
 ·rename_i q hf
  have g1 := List.find?_some hf
  have g2 := List.mem_range.1 (List.mem_reverse.1 (List.mem_of_find?_eq_some hf))
  simp only [Bool.and_eq_true, decide_eq_true_eq] at g1
  have ht := v.to g2 hii g1.2
  obtain ⟨s', j1, j2, j3⟩ := placeC_in (allRed tp hr.zero hn ht.2)
  have he := v.edge g2 hii
  rw [j2]
  unfold fitsR
  have : 0 ≤ (eT t q i).2 ∧ (eT t q i).2 < t.outs := by
   rcases he with h | h
   ·exact absurd h.1 g1.2
   ·exact ⟨h.2.2.1, h.2.2.2⟩
  simp only [Bool.or_eq_true, Bool.and_eq_true, decide_eq_true_eq]
  exact .inr ⟨⟨⟨by omega, by omega⟩, this.1⟩, this.2⟩
 ·rfl
end Go.Avl
namespace Go.Avl
open Go Go.Proofs.Try
set_option maxRecDepth 10000
set_option linter.unusedSimpArgs false
def aftI (m : Mach) : Int → List Nat → Int
 | s, [] => s
 | s, a :: w => aftI m (stepR m s (a : Int)).1 w
def castW (w : List Nat) : List Int := w.map fun (x : Nat) => (x : Int)
theorem aftI_snoc (m : Mach) (i : Nat) : ∀ (s : Int) (w : List Nat), aftI m s (w ++ [i]) = (stepR m (aftI m s w) (i : Int)).1
 | _, [] => rfl
 | _, _ :: w => aftI_snoc m i _ w
theorem runR_snoc (m : Mach) (i : Nat) : ∀ (s : Int) (w : List Nat), runR m s (castW (w ++ [i])) = runR m s (castW w) ++ [(stepR m (aftI m s w) (i : Int)).2]
 | _, [] => by simp only [castW, List.nil_append, List.map_cons, List.map_nil, runR, aftI]
 | s, a :: w => by
   have := runR_snoc m i (stepR m s (a : Int)).1 w
   simp only [castW, List.cons_append, List.map_cons, runR] at this ⊢
   rw [this]; rfl
theorem stepR_eT (m : Mach) (s i : Nat) : stepR m (s : Int) (i : Int) = eT m s i := by
 unfold stepR
 rw [if_neg (by omega)]; rfl
def outT (x : Int × Int) : Int := if x.1 = -1 then -1 else x.2
def okW (t m : Mach) (n i : Nat) : Bool := !knownE (eT t n i) || decide ((stepR m (aftI m 0 (wordN t n)) (i : Int)).2 = outT (eT t n i))
theorem FitH.aft {t m : Mach} (v : TV t) (tp : TP t) {h : Nat → Nat} (hf : FitH t m h) : ∀ n, n < t.rows.length → aftI m 0 (wordN t n) = (h n : Int) := by
 intro n
 induction n using Nat.strongRecOn with
 | _ n ih =>
   intro hn
   by_cases h0 : n = 0
   ·subst h0; rw [wordN_zero, aftI, hf.root]; rfl
   ·have hp := parT_lt v tp (by omega) hn
    have he := parT_to v tp (n := n) (by omega) hn
    rw [wordN_eq v tp (by omega) hn, aftI_snoc, ih _ hp.1 (by omega), stepR_eT]
    have := (hf.ok _ _ (show (parT t n).1 < t.rows.length by omega) hp.2).2 (by omega)
    rw [this, he, Int.toNat_natCast]
theorem FitH.okW {t m : Mach} (v : TV t) (tp : TP t) (vm : Valid m) (hins : m.ins = t.ins) {h : Nat → Nat} (hf : FitH t m h) {n i : Nat} (hn : n < t.rows.length) (hi : (i : Int) < t.ins) : okW t m n i = true := by
 have h1 := (hf.ok n i hn hi).1
 unfold Go.Avl.okW
 rw [hf.aft v tp n hn, stepR_eT]
 unfold okB at h1
 cases hk : knownE (eT t n i) with
 | false => rfl
 | true =>
   rw [hk] at h1
   simp only [Bool.not_true, Bool.false_or, Bool.and_eq_true, Bool.or_eq_true, beq_iff_eq, decide_eq_true_eq, decide_eq_decide] at h1 ⊢
   unfold outT
   by_cases hx : (eT t n i).1 = -1
   ·rw [if_pos hx]
    have hy := h1.1.1 hx
    by_cases hs : h n < m.rows.length
    ·obtain ⟨_, _, _, _, he⟩ := vm.edge hs (i := i) (by omega)
     rcases he with he | he
     ·rw [he]
     ·omega
    ·have : m.rows[h n]? = none := List.getElem?_eq_none (by omega)
     simp [eT, this]
   ·rw [if_neg hx]
    exact h1.2.resolve_left hx
theorem okW_fit {t m : Mach} (v : TV t) (tp : TP t) (vm : Valid m) (hins : m.ins = t.ins) (h : ∀ n i : Nat, n < t.rows.length → (i : Int) < t.ins → okW t m n i = true) : FitH t m fun n => (aftI m 0 (wordN t n)).toNat := by
 have hpos : ∀ n, n < t.rows.length → 0 ≤ aftI m 0 (wordN t n) ∧ aftI m 0 (wordN t n) < m.rows.length := by
  intro n
  induction n using Nat.strongRecOn with
  | _ n ih =>
    intro hn
    by_cases h0 : n = 0
    ·subst h0; rw [wordN_zero, aftI]; have := vm.rows; omega
    ·have hp := parT_lt v tp (by omega) hn
     have he := parT_to v tp (n := n) (by omega) hn
     have hk := h _ _ (show (parT t n).1 < t.rows.length by omega) hp.2
     have hv := v.edge (show (parT t n).1 < t.rows.length by omega) hp.2
     have ih := ih _ hp.1 (by omega)
     rw [wordN_eq v tp (by omega) hn, aftI_snoc]
     obtain ⟨s, hs⟩ : ∃ s : Nat, aftI m 0 (wordN t (parT t n).1) = (s : Int) := ⟨_, (Int.toNat_of_nonneg ih.1).symm⟩
     unfold okW at hk
     rw [knownE_to (show (eT t (parT t n).1 (parT t n).2).1 ≠ -1 by omega), hs, stepR_eT, outT, if_neg (by omega)] at hk
     rw [hs, stepR_eT]
     simp only [Bool.not_true, Bool.false_or, decide_eq_true_eq] at hk
     obtain ⟨_, _, _, _, hx⟩ := vm.edge (show s < m.rows.length by omega) (i := (parT t n).2) (by omega)
     rcases hx with hx | hx
     ·rw [hx] at hk; simp only at hk; omega
     ·omega
 refine ⟨by rw [wordN_zero]; rfl, fun n i hn hi => ?_⟩
 have hp := hpos n hn
 obtain ⟨s, hs⟩ : ∃ s : Nat, aftI m 0 (wordN t n) = (s : Int) := ⟨_, (Int.toNat_of_nonneg hp.1).symm⟩
 have hk := h n i hn hi
 unfold okW at hk
 rw [hs, stepR_eT] at hk
 rw [hs, Int.toNat_natCast]
 obtain ⟨_, _, _, _, hx⟩ := vm.edge (show s < m.rows.length by omega) (i := i) (by omega)
 have hv := v.edge hn hi
 refine ⟨?_, fun hne => ?_⟩
 ·unfold okB
  cases hkn : knownE (eT t n i) with
  | false => rfl
  | true =>
    rw [hkn] at hk
    unfold outT at hk
    simp only [Bool.not_true, Bool.false_or, decide_eq_true_eq] at hk
    by_cases h1 : (eT t n i).1 = -1
    ·rw [if_pos h1] at hk
     have : (eT m s i).1 = -1 := by
      rcases hx with hx | hx
      ·rw [hx]
      ·omega
     rw [h1, this]; rfl
    ·rw [if_neg h1] at hk
     have : (eT m s i).1 ≠ -1 := by
      rcases hx with hx | hx
      ·rw [hx] at hk; simp only at hk; omega
      ·omega
     rw [decide_eq_false h1, decide_eq_false this, hk]; simp
 ·obtain ⟨k, hk⟩ : ∃ k : Nat, (eT t n i).1 = (k : Int) := ⟨(eT t n i).1.toNat, by omega⟩
  obtain ⟨q1, q2, q3, q4⟩ := wordN_edge v tp hn hi hk
  rw [hk, Int.toNat_natCast]
  have := hpos k q2
  rw [q4, aftI_snoc, hs, stepR_eT] at this ⊢
  omega
theorem fitB_iff {t m : Mach} (v : TV t) (tp : TP t) (vm : Valid m) (hins : m.ins = t.ins) : fitB t m = true ↔ ∀ n i : Nat, n < t.rows.length → (i : Int) < t.ins → okW t m n i = true := by
 classical
 unfold fitB
 rw [decide_eq_true_eq]
 exact ⟨fun ⟨h, hf⟩ n i hn hi => hf.okW v tp vm hins hn hi, fun h => ⟨_, okW_fit v tp vm hins h⟩⟩
end Go.Avl
namespace Go.Avl
open Go Go.Proofs.Try
set_option maxRecDepth 10000
set_option linter.unusedSimpArgs false
theorem castW_mem {t : Mach} (v : TV t) (tp : TP t) : ∀ n, n < t.rows.length → ∀ a ∈ castW (wordN t n), 0 ≤ a ∧ a < t.ins := by
 intro n
 induction n using Nat.strongRecOn with
 | _ n ih =>
   intro hn a ha
   by_cases h0 : n = 0
   ·subst h0; rw [wordN_zero] at ha; cases ha
   ·have hp := parT_lt v tp (by omega) hn
    rw [wordN_eq v tp (by omega) hn, castW, List.map_append] at ha
    rcases List.mem_append.1 ha with ha | ha
    ·exact ih _ hp.1 (by omega) a ha
    ·simp at ha; omega
theorem castW_natC (w : List Nat) : (castW w).map intC = w.map natC := by unfold castW; rw [List.map_map]; rfl
set_option maxHeartbeats 8000000 in
theorem fits24_is {t m : Mach} (v : TV t) (tp : TP t) (vm : Valid m) (hins : m.ins = t.ins) : PureIs prog 24 [.ag m.cells, .ag t.cells] (.sc (.bool (fitB t m))) := by
 have hrw := v.rows
 have hin := v.ins
 have hWd := words56_is v.tg
 rw [wordsR_valid v tp] at hWd
 have hiff := fitB_iff v tp vm hins
 obtain ⟨N, hN⟩ : ∃ N, N = t.rows.length := ⟨_, rfl⟩
 rw [← hN] at hWd hrw
 generalize fitB t m = B at hiff
 obtain ⟨L, hL⟩ : ∃ L, L = (List.range N).map (wordN t) := ⟨_, rfl⟩
 rw [← hL] at hWd
 have hLl : (L.map wA).length = N := by rw [hL]; simp
 rw [wordsA] at hWd
 refine PureIs.of (nv := 11) (hid := [8, 16, 22, 35, 51, 59]) func24 rfl (by kernel_rfl) (by simp [ntmps24]) fun _ => ?_
 rw [ntmps24, results24]
 refine EvC.seq (EvC.rg (by simp only [go_sem, Mach.cells] <;> rfl) (by simp) ?_)
 refine EvC.frzB 0 (by simp only [go_sem] <;> rfl) ?_
 refine EvC.frzB 1 (by simp only [go_sem] <;> rfl) ?_
 rw [Mach.cells] at hWd
 apply EvC.seq
 apply EvC.tr
 ·apply Tr.run
  ·simp only [go_sem] <;> rfl
  ·simp
  apply Tr.cons
  ·exact .call rfl rfl (by simp only [go_sem] <;> rfl) (by simp only [go_sem] <;> rfl) (by simp only [go_sem] <;> rfl) (by simp only [go_sem] <;> rfl) (by simp only [go_sem] <;> rfl) (hWd)
  apply Tr.done
  ·simp only [go_sem] <;> rfl
  ·simp
 refine EvC.seq ?_
 refine EvC.seq (EvC.rg (by simp only [go_sem] <;> rfl) (by simp) ?_)
 refine EvC.block ?_
 refine EvC.loopS (σ := Nat) (fun n => ⟨[(2, .ia m.cells), (3, .ia t.cells), (5, .sl false (L.map wA) .full), (6, .sc (.int .i64 n))], [], [], 0⟩) (fun n => N - n)
  (fun n => n ≤ N ∧ ∀ q i : Nat, q < n → (i : Int) < t.ins → okW t m q i = true) [2, 3, 5, 6] 0 ?_ ?_
 ·exact ⟨[], 0, rfl, (by simp only [go_sem, Mach.cells, Int.natCast_zero] <;> rfl), Nat.zero_le _, fun q i h => by omega⟩
 rintro n ⟨h1, h2⟩
 simp only at h1 h2 ⊢
 refine EvC.seq ?_
 refine EvC.seq (EvC.rg (by simp only [go_sem, hLl] <;> rfl) (by simp) ?_)
 refine EvC.cond (by simp only [go_sem] <;> rfl) (fun hc => ?_) (fun hc => ?_)
 rotate_left
 ·
  have hc : ¬ n < N := by simpa using hc
  have hB : B = true := hiff.2 fun q i hq hi => h2 q i (by omega) hi
  subst hB
  refine EvC.exit ?_
  refine EvC.seq (EvC.rg (by simp only [go_sem] <;> rfl) (by simp) ?_)
  refine EvC.ret ⟨.inl rfl, _, (by simp only [go_sem] <;> rfl), ?_, rfl⟩
  simp only [go_sem]
 have hnN : n < N := by simpa using hc
 clear hc
 refine EvC.skip ?_
 refine EvC.seq ?_
 refine EvC.block ?_
 refine EvC.seq (EvC.rg (by simp only [go_sem] <;> rfl) (by simp) ?_)
 refine EvC.block ?_
 refine EvC.loopS (σ := Nat) (fun i => ⟨[(2, .ia m.cells), (3, .ia t.cells), (5, .sl false (L.map wA) .full), (6, .sc (.int .i64 n)), (7, .sc (.int .i64 i))], [], [], 0⟩) (fun i => t.ins.toNat - i)
  (fun i => (i : Int) ≤ t.ins ∧ ∀ j : Nat, j < i → okW t m n j = true) [2, 3, 5, 6, 7] 0 ?_ ?_
 ·exact ⟨[], 0, rfl, (by simp only [go_sem, Mach.cells, Int.natCast_zero] <;> rfl), by omega, fun j h => by omega⟩
 rintro i ⟨g1, g2⟩
 simp only at g1 g2 ⊢
 have hnin : (n : Int).toNat = n := Int.toNat_natCast n
 have hiin : (i : Int).toNat = i := Int.toNat_natCast i
 refine EvC.seq ?_
 refine EvC.seq (EvC.rg (by simp only [go_sem, Mach.cells] <;> rfl) (by simp) ?_)
 refine EvC.cond (by simp only [go_sem] <;> rfl) (fun hc => ?_) (fun hc => ?_)
 rotate_left
 ·
  have hc : ¬ (i : Int) < t.ins := by simpa using hc
  refine EvC.exit ?_
  refine EvC.rg (by simp only [go_sem] <;> rfl) (by exact inI64_of (by omega) (by omega)) ?_
  refine ⟨[], n + 1, rfl, (by simp only [go_sem, Mach.cells, Int.natCast_add, Int.natCast_one] <;> rfl), ⟨hnN, fun q j hq hj => ?_⟩, by omega⟩
  by_cases e : q = n
  ·subst e; exact g2 j (by omega)
  ·exact h2 q j (by omega) hj
 have hi : (i : Int) < t.ins := by simpa using hc
 clear hc
 refine EvC.skip ?_
 refine EvC.seq ?_
 refine EvC.block ?_
 obtain ⟨A, hA, hAl, hAi⟩ := row_get v (n := n) (i := i) (by omega) hi
 have hok : okW t m n i = (!knownE (eT t n i) || decide ((stepR m (aftI m 0 (wordN t n)) (i : Int)).2 = outT (eT t n i))) := rfl
 generalize hx : eT t n i = x at hAi hok
 obtain ⟨e1, e2⟩ := x
 refine EvC.seq (EvC.rg (by simp only [go_sem, Mach.cells, hA, hAi, hnin, hiin, rowC, edgeC, List.length_map] <;> rfl) (by simp; try omega) ?_)
 refine EvC.frzB 12 (by simp only [go_sem] <;> rfl) ?_
 refine EvC.seq ?_
 have hK := known57_is e1 e2
 cases hk : knownE (e1, e2) with
 | false =>
   rw [hk] at hK hok
   apply EvC.seq
   apply EvC.tr
   ·apply Tr.run
    ·simp only [go_sem] <;> rfl
    ·simp
    apply Tr.cons
    ·exact .call rfl rfl (by simp only [go_sem] <;> rfl) (by simp only [go_sem] <;> rfl) (by simp only [go_sem] <;> rfl) (by simp only [go_sem] <;> rfl) (by simp only [go_sem] <;> rfl) (hK)
    apply Tr.done
    ·simp only [go_sem] <;> rfl
    ·simp
   refine EvC.cond_true (by simp only [go_sem] <;> rfl) ?_
   refine EvC.exit ?_
   refine EvC.rg (by simp only [go_sem] <;> rfl) (by exact inI64_of (by omega) (by omega)) ?_
   refine ⟨[], i + 1, rfl, (by simp only [go_sem, Mach.cells, Int.natCast_add, Int.natCast_one] <;> rfl), ⟨by omega, fun j hj => ?_⟩, by omega⟩
   by_cases e : j = i
   ·subst e; rw [hok]; rfl
   ·exact g2 j (by omega)
 | true =>
 rw [hk] at hK hok
 apply EvC.seq
 apply EvC.tr
 ·apply Tr.run
  ·simp only [go_sem] <;> rfl
  ·simp
  apply Tr.cons
  ·exact .call rfl rfl (by simp only [go_sem] <;> rfl) (by simp only [go_sem] <;> rfl) (by simp only [go_sem] <;> rfl) (by simp only [go_sem] <;> rfl) (by simp only [go_sem] <;> rfl) (hK)
  apply Tr.done
  ·simp only [go_sem] <;> rfl
  ·simp
 refine EvC.cond_false (by simp only [go_sem] <;> rfl) ?_
 refine EvC.skip ?_
 refine EvC.gcE [2, 3, 5, 6, 7, 8] [] 0 rfl (by simp only [go_sem] <;> rfl) ?_
 obtain ⟨w, hw⟩ : ∃ w, w = wordN t n ++ [i] := ⟨_, rfl⟩
 have hwl := wordN_le v tp n (by omega)
 have hRun := run04_is vm 0 (by have := vm.rows; omega) false (castW w) .unk (fun a ha => by
  rw [hw, castW, List.map_append] at ha
  rcases List.mem_append.1 ha with ha | ha
  ·have := castW_mem v tp n (by omega) a ha; omega
  ·simp at ha; omega) (by rw [hw, castW]; simp; omega)
 have hrs := runR_snoc m i 0 (wordN t n)
 rw [← hw] at hrs
 rw [castW_natC] at hRun
 have hrl : (runR m 0 (castW w)).length = w.length := by rw [runR_len, castW]; simp
 have hw0 : w.length = (wordN t n).length + 1 := by rw [hw]; simp
 have hre : (runR m 0 (castW w)).isEmpty = false := by cases hq : runR m 0 (castW w) with
  | nil => rw [hq] at hrl; simp at hrl; omega
  | cons _ _ => rfl
 have hlast : (runR m 0 (castW w))[w.length - 1]? = some (stepR m (aftI m 0 (wordN t n)) (i : Int)).2 := by
  rw [hrs, List.getElem?_append_right (by rw [runR_len, castW, List.length_map]; omega), runR_len, castW, List.length_map, hw0]; simp
 rw [hre] at hRun
 generalize runR m 0 (castW w) = R at hRun hrs hrl hlast
 generalize (stepR m (aftI m 0 (wordN t n)) (i : Int)).2 = y at hok hlast hrs
 refine EvC.mergeC (α := Unit) (fun _ => ⟨[(2, .ia m.cells), (3, .ia t.cells), (5, .sl false (L.map wA) .full), (6, .sc (.int .i64 n)), (7, .sc (.int .i64 i)), (8, .ia [.sc (.int .i64 e1), .sc (.int .i64 e2)]), (9, .sl false (R.map intC) .unk)], [], [], 0⟩) (fun _ => True) ?_ ?_
 ·rw [Mach.cells] at hRun
  have hgL : (L.map wA)[n]? = some (wA (wordN t n)) := by rw [hL, List.map_map, List.getElem?_map, List.getElem?_range hnN]; rfl
  by_cases hx0 : wordN t n = []
  ·rw [hx0] at hgL hw
   have hgL2 : (L.map wA)[n]? = some [.sl true [] .zer] := hgL
   have hw1 : w.map natC = [[.sc (.int .i64 i)]] := by rw [hw]; rfl
   rw [hw1] at hRun
   apply EvC.drw mixed
   ·apply Tr.cons
    ·exact .op rfl (by simp only [go_sem] <;> rfl) (by simp only [go_sem] <;> rfl) rfl (by simp only [go_sem] <;> rfl)
    apply Tr.cons
    ·exact .op rfl (by simp only [go_sem] <;> rfl) (by simp only [go_sem] <;> rfl) rfl (by simp only [go_sem] <;> rfl)
    apply Tr.cons
    ·exact .op rfl (by simp only [go_sem] <;> rfl) (by simp only [go_sem] <;> rfl) rfl (by simp only [go_sem] <;> rfl)
    apply Tr.cons
    ·exact .op rfl (by simp only [go_sem] <;> rfl) (by simp only [go_sem] <;> rfl) rfl (by simp only [go_sem] <;> rfl)
    apply Tr.cons
    ·exact .op rfl (by simp only [go_sem] <;> rfl) (by simp only [go_sem, hnin, hgL2, hLl] <;> rfl) (by simp; try omega) (by simp only [go_sem] <;> rfl)
    apply Tr.cons
    ·exact .op rfl (by simp only [go_sem] <;> rfl) (by simp only [go_sem, hnin, hgL2, hLl] <;> rfl) (by simp; try omega) (by simp only [go_sem] <;> rfl)
    apply Tr.cons
    ·exact .appZ rfl rfl (by simp only [go_sem] <;> rfl) (by simp only [go_sem] <;> rfl) (by simp only [go_sem] <;> rfl) (by simp only [go_sem] <;> rfl) (by simp only [go_sem] <;> rfl) (by simp only [go_sem] <;> rfl) (by simp only [go_sem] <;> rfl)
    apply Tr.run
    ·simp only [go_sem] <;> rfl
    ·simp [room_eq]
    apply Tr.cons
    ·exact .callFz (i := 9) rfl rfl (by simp only [go_sem] <;> rfl) (by simp only [go_sem] <;> rfl) (by simp only [go_sem] <;> rfl) (by simp only [go_sem] <;> rfl) (by simp only [go_sem] <;> rfl) (by simp only [go_sem] <;> rfl) rfl (by simp only [go_sem] <;> rfl) hRun
    apply Tr.done
    ·simp only [go_sem] <;> rfl
    ·simp
   ·kernel_rfl
   exact ⟨rfl, (), trivial, fun c Q h => EvC.gcE [2, 3, 5, 6, 7, 8, 9] [] 0 rfl (by simp only [go_sem, Mach.cells] <;> rfl) h⟩
  have hx0l : (wordN t n).length ≠ 0 := fun h => hx0 (List.length_eq_zero_iff.1 h)
  have hx0e : (wordN t n).isEmpty = false := by cases hq : wordN t n with
   | nil => exact absurd hq hx0
   | cons _ _ => rfl
  have hgo2 : (L.map wA)[n]? = some [.sl false ((wordN t n).map natC) .unk] := by rw [hgL, wA, hx0e, wCp, if_neg hx0]
  have hsn : (wordN t n).map natC ++ [[.sc (.int .i64 i)]] = w.map natC := by rw [hw]; simp [natC]
  have hsl : (wordN t n).length + 1 = w.length := by rw [hw]; simp
  have hy : ∀ a ∈ wordN t n, (natC a).length = 1 := fun _ _ => rfl
  have hr3 : room (wordN t n).length 8 = true := by simp only [room_eq, decide_eq_true_eq]; omega
  have hr4 : room w.length 8 = true := by simp only [room_eq, decide_eq_true_eq]; omega
  apply EvC.drwA mixed
  ·apply Tr.run
   ·simp only [go_sem, hgo2, hnin, hLl, hsn, hsl, List.length_map] <;> rfl
   ·simp; exact ⟨⟨hr3, hy⟩, hr4⟩
   apply Tr.cons
   ·exact .callFz (i := 6) rfl rfl (by simp only [go_sem] <;> rfl) (by simp only [go_sem] <;> rfl) (by simp only [go_sem] <;> rfl) (by simp only [go_sem] <;> rfl) (by simp only [go_sem, List.length_map] <;> rfl) (by simp only [go_sem] <;> rfl) rfl (by simp only [go_sem] <;> rfl) hRun
   apply Tr.done
   ·simp only [go_sem] <;> rfl
   ·simp
  ·kernel_rfl
  exact ⟨rfl, (), trivial, fun c Q h => EvC.gcE [2, 3, 5, 6, 7, 8, 9] [] 0 rfl (by simp only [go_sem, Mach.cells] <;> rfl) h⟩
 intro _ _
 refine EvC.seq (EvC.rg (by simp only [go_sem] <;> rfl) (by simp) ?_)
 refine EvC.mergeC (α := Unit) (fun _ => ⟨[(2, .ia m.cells), (3, .ia t.cells), (5, .sl false (L.map wA) .full), (6, .sc (.int .i64 n)), (7, .sc (.int .i64 i)), (9, .sl false (R.map intC) .unk), (10, .sc (.int .i64 (outT (e1, e2))))], [], [], 0⟩) (fun _ => True) ?_ ?_
 ·by_cases h : e1 = -1
  ·have ho : outT (e1, e2) = -1 := by unfold outT; rw [if_pos h]
   rw [ho]
   refine EvC.seq (EvC.rg (by simp only [go_sem] <;> rfl) (by simp) ?_)
   refine EvC.cond_true (by simp only [go_sem, decide_eq_true h] <;> rfl) ?_
   refine EvC.rg (by simp only [go_sem] <;> rfl) (by simp) ?_
   exact ⟨rfl, (), trivial, fun c Q h => EvC.gcE [2, 3, 5, 6, 7, 9, 10] [] 0 rfl (by simp only [go_sem, Mach.cells] <;> rfl) h⟩
  ·have ho : outT (e1, e2) = e2 := by unfold outT; rw [if_neg h]
   rw [ho]
   refine EvC.seq (EvC.rg (by simp only [go_sem] <;> rfl) (by simp) ?_)
   refine EvC.cond_false (by simp only [go_sem, decide_eq_false h] <;> rfl) ?_
   refine EvC.skip ?_
   exact ⟨rfl, (), trivial, fun c Q h => EvC.gcE [2, 3, 5, 6, 7, 9, 10] [] 0 rfl (by simp only [go_sem, Mach.cells] <;> rfl) h⟩
 intro _ _
 generalize outT (e1, e2) = o at hok
 have hlt : ((w.length : Int) - 1).toNat = w.length - 1 := by omega
 have hlast2 : (R.map intC)[w.length - 1]? = some (intC y) := by rw [List.getElem?_map, hlast]; rfl
 have hRl : (R.map intC).length = w.length := by rw [List.length_map, hrl]
 refine EvC.seq (EvC.rg (by simp only [go_sem, hRl, hlt, hlast2, intC] <;> rfl) (by simp; exact ⟨inI64_of (by omega) (by omega), by omega⟩) ?_)
 by_cases hyo : y = o
 rotate_left
 ·rw [decide_eq_false hyo] at hok
  have hB : B = false := by
   cases B with
   | false => rfl
   | true => have := hiff.1 rfl n i (by omega) hi; rw [hok] at this; cases this
  subst hB
  refine EvC.cond_true (by simp only [go_sem, decide_eq_false hyo] <;> rfl) ?_
  refine EvC.seq (EvC.rg (by simp only [go_sem] <;> rfl) (by simp) ?_)
  refine EvC.ret ⟨.inl rfl, _, (by simp only [go_sem] <;> rfl), ?_, rfl⟩
  simp only [go_sem]
 rw [decide_eq_true hyo] at hok
 refine EvC.cond_false (by simp only [go_sem, decide_eq_true hyo] <;> rfl) ?_
 refine EvC.skip ?_
 refine EvC.rg (by simp only [go_sem] <;> rfl) (by exact inI64_of (by omega) (by omega)) ?_
 refine ⟨[], i + 1, rfl, (by simp only [go_sem, Mach.cells, Int.natCast_add, Int.natCast_one] <;> rfl), ⟨by omega, fun j hj => ?_⟩, by omega⟩
 by_cases e : j = i
 ·subst e; rw [hok]; rfl
 ·exact g2 j (by omega)
end Go.Avl
namespace Go.Avl
open Go Go.Proofs.Try
set_option maxRecDepth 10000
set_option linter.unusedSimpArgs false
def mM (t : Mach) (rows : List (List (Int × Int))) : Mach := ⟨t.ins, t.outs, false, rows.map fun r => (false, r)⟩
theorem mM_rows (t : Mach) (rows : List (List (Int × Int))) : (mM t rows).rows.map (·.2) = rows := by
 unfold mM
 rw [List.map_map]
 exact List.map_id' rows
theorem mM_unk (t : Mach) (rows : List (List (Int × Int))) : AV.unk (.ag [.sc (.int .i64 t.ins), .sc (.int .i64 t.outs), .sl false (rows.map rowFu) .full]) = .ag (mM t rows).cells := by
 have h : AV.unkss (rows.map rowFu) = (rows.map fun r => ((false, r) : Row)).map rowC := by
  rw [unkss_eq, List.map_map, List.map_map]
  refine List.map_congr_left fun r _ => ?_
  have : AV.unkss (r.map edgeC) = r.map edgeC := unkss_map edgeC (fun _ => rfl) r
  simp [rowFu, rowC, AV.unks, AV.unk, this]
 simp only [AV.unk, AV.unks, h, mM, Mach.cells]
theorem mM_unk2 (t : Mach) (rows : List (List (Int × Int))) : AV.unk (.ag [.sc (.int .i64 t.ins), .sc (.int .i64 t.outs), .sl false (rows.map rowF) .unk]) = .ag (mM t rows).cells := by
 have h : AV.unkss (rows.map rowF) = (rows.map fun r => ((false, r) : Row)).map rowC := by
  rw [unkss_eq, List.map_map, List.map_map]
  refine List.map_congr_left fun r _ => ?_
  have : AV.unkss (r.map edgeC) = r.map edgeC := unkss_map edgeC (fun _ => rfl) r
  simp [rowF, rowC, AV.unks, AV.unk, this]
 simp only [AV.unk, AV.unks, h, mM, Mach.cells]
theorem mergeT_ok {t : Mach} (v : TV t) (tp : TP t) {rows : List (List (Int × Int))} (h : mergeT t = some rows) : checkM (mM t rows) = 0 ∧ fitB t (mM t rows) = true ∧ 1 ≤ rows.length ∧ rows.length ≤ 64 ∧ ∀ r ∈ rows, (r.length : Int) = t.ins := by
 classical
 obtain ⟨c, red, h1, h2, h3, h4, h5, rfl⟩ := mergeC_end v _ _ _ (isF_alone t) (redOk_zero v) rfl rows h
 have hm := mM_rows t (machC t c red)
 have hin := v.ins
 refine ⟨machC_check v tp h2 h4 h5 rfl rfl hm, ?_, ?_, ?_, fun r hr => ?_⟩
 ·unfold fitB
  rw [decide_eq_true_eq]
  exact ⟨_, machC_fits v tp h1 h2 h3 h5 hm⟩
 ·have := (List.getElem?_eq_some_iff.1 h3).1
  simp [machC]; omega
 ·simp [machC]; exact h4
 ·obtain ⟨s, _, rfl⟩ := List.mem_map.1 hr
  simp; omega
set_option maxHeartbeats 8000000 in
theorem mergesMerge_is {g : LG} (hg : g.Ok) : PureIs prog 5 [.ag g.cells] (.sc (.bool true)) := by
 obtain ⟨hck, v, hins⟩ := LG.tree_ok hg
 have hO := of12_is hg
 have hT := LG.tree_is hg
 have hL := lives15_is
 have hrw := v.rows
 have hRF := treeM_rowsF g.m.mach.ins.toNat g.m.mach.outs (okLog g.log)
 rw [show treeM g.m.mach.ins.toNat g.m.mach.outs (okLog g.log) = g.tree from rfl] at hRF
 generalize g.tree = t at hck v hT hrw hRF hins
 have tp := TP.of hck
 have hin := v.ins
 have c1 := merge20_is t v.short hRF
 unfold mergeRes at c1
 rw [nodesE_zero hck (by intro x hx; cases hx), if_neg (by simp)] at c1
 have c2 := merge21_is v
 unfold refMergeRes at c2
 have hmo := fun rows h => mergeT_ok v tp (rows := rows) h
 generalize mergeT t = r at c1 c2 hmo
 unfold logA at hO hT
 refine PureIs.of (nv := 10) (hid := [3, 4, 5, 6, 7, 8, 9, 40, 42]) func5 rfl (by kernel_rfl) (by simp [ntmps5]) fun _ => ?_
 rw [ntmps5, results5]
 cases r with
 | none =>
   simp only [zeroM] at c1 c2
   have s0 : PureIs prog 22 [.ag [.sc (.int .i64 0), .sc (.int .i64 0), .sl true [] .zer], .ag [.sc (.int .i64 0), .sc (.int .i64 0), .sl true [] .zer]] (.sc (.bool true)) :=
    PureIs.weak (sameM_is (a := ⟨0, 0, true, []⟩) (b := ⟨0, 0, true, []⟩) rfl rfl rfl (by simp) (by simp))
   rw [Mach.cells] at hT c1 c2
   unfold LG.cells at *
   refine EvC.seq (EvC.rg (by simp only [go_sem] <;> rfl) (by simp) ?_)
   refine EvC.frzB 0 (by simp only [go_sem] <;> rfl) ?_
   apply EvC.seq
   apply EvC.tr
   ·apply Tr.run
    ·simp only [go_sem] <;> rfl
    ·simp
    apply Tr.cons
    ·exact .call rfl rfl (by simp only [go_sem] <;> rfl) (by simp only [go_sem] <;> rfl) (by simp only [go_sem] <;> rfl) (by simp only [go_sem] <;> rfl) (by simp only [go_sem] <;> rfl) (hO)
    apply Tr.run
    ·simp only [go_sem] <;> rfl
    ·simp
    apply Tr.cons
    ·exact .call rfl rfl (by simp only [go_sem] <;> rfl) (by simp only [go_sem] <;> rfl) (by simp only [go_sem] <;> rfl) (by simp only [go_sem] <;> rfl) (by simp only [go_sem] <;> rfl) (hT)
    apply Tr.done
    ·simp only [go_sem] <;> rfl
    ·simp
   refine EvC.frzB 5 (by simp only [go_sem] <;> rfl) ?_
   refine EvC.gc [2, 3] [] 0 rfl ?_
   apply EvC.seq
   apply EvC.tr
   ·apply Tr.run
    ·simp only [go_sem] <;> rfl
    ·simp
    apply Tr.cons
    ·exact .call rfl rfl (by simp only [go_sem] <;> rfl) (by simp only [go_sem] <;> rfl) (by simp only [go_sem] <;> rfl) (by simp only [go_sem] <;> rfl) (by simp only [go_sem] <;> rfl) (c1)
    apply Tr.done
    ·simp only [go_sem] <;> rfl
    ·simp
   refine EvC.frzB 5 (by simp only [go_sem] <;> rfl) ?_
   refine EvC.gc [2, 3, 4, 5] [] 0 rfl ?_
   apply EvC.seq
   apply EvC.tr
   ·apply Tr.run
    ·simp only [go_sem] <;> rfl
    ·simp
    apply Tr.cons
    ·exact .call rfl rfl (by simp only [go_sem] <;> rfl) (by simp only [go_sem] <;> rfl) (by simp only [go_sem] <;> rfl) (by simp only [go_sem] <;> rfl) (by simp only [go_sem] <;> rfl) (c2)
    apply Tr.done
    ·simp only [go_sem] <;> rfl
    ·simp
   refine EvC.frzB 5 (by simp only [go_sem] <;> rfl) ?_
   refine EvC.gc [2, 3, 4, 5, 6, 7] [] 0 rfl ?_
   refine EvC.seq ?_
   apply EvC.seq
   apply EvC.tr
   ·apply Tr.run
    ·simp only [go_sem] <;> rfl
    ·simp
    apply Tr.cons
    ·exact .callG rfl rfl (by simp only [go_sem] <;> rfl) rfl (by simp only [go_sem] <;> rfl) (by simp only [go_sem] <;> rfl) (by simp only [go_sem] <;> rfl) (by simp only [go_sem] <;> rfl) (by simp only [go_sem] <;> rfl) (s0)
    apply Tr.done
    ·simp only [go_sem] <;> rfl
    ·simp
   refine EvC.cond_false (by simp only [go_sem] <;> rfl) ?_
   refine EvC.skip ?_
   refine EvC.seq ?_
   refine EvC.seq (EvC.rg (by simp only [go_sem] <;> rfl) (by simp) ?_)
   refine EvC.cond_true (by simp only [go_sem] <;> rfl) ?_
   apply EvC.seq
   apply EvC.tr
   ·apply Tr.run
    ·simp only [go_sem] <;> rfl
    ·simp
    apply Tr.cons
    ·exact .call rfl rfl (by simp only [go_sem] <;> rfl) (by simp only [go_sem] <;> rfl) (by simp only [go_sem] <;> rfl) (by simp only [go_sem] <;> rfl) (by simp only [go_sem] <;> rfl) (hL)
    apply Tr.done
    ·simp only [go_sem] <;> rfl
    ·simp
   refine EvC.ret ⟨.inl rfl, _, (by simp only [go_sem] <;> rfl), ?_, rfl⟩
   simp only [go_sem]
 | some rows =>
   obtain ⟨k1, k2, k3, k4, k5⟩ := hmo rows rfl
   have vm := Valid.of k1
   simp only at c1 c2
   have hrl : ∀ r ∈ (mM t rows).rows, r.2.length < 1000000 := fun r hr => by
    obtain ⟨x, hx, rfl⟩ := List.mem_map.1 hr
    have := k5 x hx
    simp only; omega
   have hml : (mM t rows).rows.length = rows.length := by simp [mM]
   have s0 : PureIs prog 22 [.ag [.sc (.int .i64 t.ins), .sc (.int .i64 t.outs), .sl false (rows.map rowFu) .full], .ag [.sc (.int .i64 t.ins), .sc (.int .i64 t.outs), .sl false (rows.map rowF) .unk]] (.sc (.bool true)) := by
    refine PureIs.weak ?_
    rw [List.map_cons, List.map_cons, List.map_nil, mM_unk, mM_unk2]
    exact sameM_is rfl rfl rfl (by omega) hrl
   have tu : AV.unk (.ag t.cells) = .ag t.cells := by
    have h : AV.unkss (t.rows.map rowC) = t.rows.map rowC := by
     refine unkss_map rowC (fun x => ?_) t.rows
     have : AV.unkss (x.2.map edgeC) = x.2.map edgeC := unkss_map edgeC (fun _ => rfl) _
     simp [rowC, AV.unks, AV.unk, this]
    simp only [Mach.cells, AV.unk, AV.unks, h]
   have f0 : PureIs prog 23 [.ag [.sc (.int .i64 t.ins), .sc (.int .i64 t.outs), .sl false (rows.map rowFu) .full], .ag t.cells] (.tu [.sc (.bool true), .sc (.int .i64 0)]) := by
    refine PureIs.weak ?_
    rw [List.map_cons, List.map_cons, List.map_nil, mM_unk, tu]
    have := fits23_is t (mM t rows) v.short hrl
    unfold fitAns at this
    rw [k1, hck, if_neg (by simp), if_neg (by simp), if_neg (show ¬ (mM t rows).ins ≠ t.ins from fun h => h rfl), k2] at this
    exact this
   have f1 : PureIs prog 24 [.ag [.sc (.int .i64 t.ins), .sc (.int .i64 t.outs), .sl false (rows.map rowFu) .full], .ag t.cells] (.sc (.bool true)) := by
    refine PureIs.weak ?_
    rw [List.map_cons, List.map_cons, List.map_nil, mM_unk, tu]
    have := fits24_is v tp vm rfl
    rw [k2] at this
    exact this
   rw [Mach.cells] at hT c1 c2 f0 f1
   unfold LG.cells at *
   refine EvC.seq (EvC.rg (by simp only [go_sem] <;> rfl) (by simp) ?_)
   refine EvC.frzB 0 (by simp only [go_sem] <;> rfl) ?_
   apply EvC.seq
   apply EvC.tr
   ·apply Tr.run
    ·simp only [go_sem] <;> rfl
    ·simp
    apply Tr.cons
    ·exact .call rfl rfl (by simp only [go_sem] <;> rfl) (by simp only [go_sem] <;> rfl) (by simp only [go_sem] <;> rfl) (by simp only [go_sem] <;> rfl) (by simp only [go_sem] <;> rfl) (hO)
    apply Tr.run
    ·simp only [go_sem] <;> rfl
    ·simp
    apply Tr.cons
    ·exact .call rfl rfl (by simp only [go_sem] <;> rfl) (by simp only [go_sem] <;> rfl) (by simp only [go_sem] <;> rfl) (by simp only [go_sem] <;> rfl) (by simp only [go_sem] <;> rfl) (hT)
    apply Tr.done
    ·simp only [go_sem] <;> rfl
    ·simp
   refine EvC.frzB 5 (by simp only [go_sem] <;> rfl) ?_
   refine EvC.gc [2, 3] [] 0 rfl ?_
   apply EvC.seq
   apply EvC.tr
   ·apply Tr.run
    ·simp only [go_sem] <;> rfl
    ·simp
    apply Tr.cons
    ·exact .call rfl rfl (by simp only [go_sem] <;> rfl) (by simp only [go_sem] <;> rfl) (by simp only [go_sem] <;> rfl) (by simp only [go_sem] <;> rfl) (by simp only [go_sem] <;> rfl) (c1)
    apply Tr.done
    ·simp only [go_sem] <;> rfl
    ·simp
   refine EvC.frzB 5 (by simp only [go_sem] <;> rfl) ?_
   refine EvC.gc [2, 3, 4, 5] [] 0 rfl ?_
   apply EvC.seq
   apply EvC.tr
   ·apply Tr.run
    ·simp only [go_sem] <;> rfl
    ·simp
    apply Tr.cons
    ·exact .call rfl rfl (by simp only [go_sem] <;> rfl) (by simp only [go_sem] <;> rfl) (by simp only [go_sem] <;> rfl) (by simp only [go_sem] <;> rfl) (by simp only [go_sem] <;> rfl) (c2)
    apply Tr.done
    ·simp only [go_sem] <;> rfl
    ·simp
   refine EvC.frzB 5 (by simp only [go_sem] <;> rfl) ?_
   refine EvC.gc [2, 3, 4, 5, 6, 7] [] 0 rfl ?_
   refine EvC.seq ?_
   apply EvC.seq
   apply EvC.tr
   ·apply Tr.run
    ·simp only [go_sem] <;> rfl
    ·simp
    apply Tr.cons
    ·exact .callG rfl rfl (by simp only [go_sem] <;> rfl) rfl (by simp only [go_sem] <;> rfl) (by simp only [go_sem] <;> rfl) (by simp only [go_sem] <;> rfl) (by simp only [go_sem] <;> rfl) (by simp only [go_sem] <;> rfl) (s0)
    apply Tr.done
    ·simp only [go_sem, List.length_map] <;> rfl
    ·simp
   refine EvC.cond_false (by simp only [go_sem] <;> rfl) ?_
   refine EvC.skip ?_
   refine EvC.seq ?_
   refine EvC.seq (EvC.rg (by simp only [go_sem] <;> rfl) (by simp) ?_)
   refine EvC.cond_false (by simp only [go_sem] <;> rfl) ?_
   refine EvC.skip ?_
   apply EvC.seq
   apply EvC.tr
   ·apply Tr.run
    ·simp only [go_sem] <;> rfl
    ·simp
    apply Tr.cons
    ·exact .call rfl rfl (by simp only [go_sem] <;> rfl) (by simp only [go_sem] <;> rfl) (by simp only [go_sem] <;> rfl) (by simp only [go_sem] <;> rfl) (by simp only [go_sem] <;> rfl) (f0)
    apply Tr.done
    ·simp only [go_sem] <;> rfl
    ·simp
   apply EvC.seq
   apply EvC.tr
   ·apply Tr.run
    ·simp only [go_sem] <;> rfl
    ·simp
    apply Tr.cons
    ·exact .callG rfl rfl (by simp only [go_sem] <;> rfl) rfl (by simp only [go_sem] <;> rfl) (by simp only [go_sem] <;> rfl) (by simp only [go_sem] <;> rfl) (by simp only [go_sem] <;> rfl) (by simp only [go_sem] <;> rfl) (f1)
    apply Tr.run
    ·simp only [go_sem] <;> rfl
    ·simp
    apply Tr.cons
    ·exact .callG rfl rfl (by simp only [go_sem] <;> rfl) rfl (by simp only [go_sem] <;> rfl) (by simp only [go_sem] <;> rfl) (by simp only [go_sem] <;> rfl) (by simp only [go_sem] <;> rfl) (by simp only [go_sem] <;> rfl) (hL)
    apply Tr.done
    ·simp only [go_sem] <;> rfl
    ·simp
   refine EvC.ret ⟨.inl rfl, _, (by simp only [go_sem] <;> rfl), ?_, rfl⟩
   simp only [go_sem]
end Go.Avl
namespace Go.Proofs.Ytkfpnkpomjmpeaa
open Go Go.Avl Go.Proofs Go.ChangeShapes Go.RowKit
set_option maxRecDepth 100000 in
theorem mergesMerge_lifted (os : Os) (started : os.Started) (H : Type) (enc : TypeId × Value → H) :
  ReturnsInHanded {} Try.checked os 5 .any (Rows.mergesMergeSpec.pre6 enc Try.prog Try.f5 Rows.mergesMergeRow.domain false) (Rows.mergesMergeSpec.post enc Try.prog Try.f5 false true false false) := by
 refine returnsInHanded_of_change_sized (C := Try.checked) Try.own started (by kernel_rfl) Try.func5
  (ChangeSpec.witness6 (enc := enc) (C := Try.checked) false ⟨#[], #[.agg #[.int .u8 0, .int .u8 0, .int .u8 0, .bool false, .slice none 0 0, .slice none 0 0, .int .u8 0, .int .u8 0, .int .u8 0]], []⟩ 8 (by kernel_rfl) (by kernel_rfl) (by kernel_rfl) (by kernel_rfl)) ?_
 intro W base args ds gs before hval hW _ hz _
 have hW' := hW
 obtain ⟨p, q, hA, hV, rfl, _, _⟩ := hW'
 obtain ⟨rfl, rfl⟩ := trodVars_none hV
 have hA' : DataW.TrodAll enc Try.prog W 0 (fun _ => true) true [27] args.toList ds p := by rw [← show Try.f5.params.toList = [27] from rfl]; exact hA
 obtain ⟨v0, d0, rfl, rfl, h0⟩ := trodAll_one hA'
 have hz' : (DataW.weightsEach Try.prog [27] [d0]).all (· ≤ reachBytes) = true := hz
 have hf := fits_each (P := Try.prog) (ts := [27]) (l := [d0]) fun n hn => by simpa using List.all_eq_true.1 hz' n hn
 obtain ⟨x, hx, i0⟩ := rd_LG.imm_struct Try.underlying27 (hval 0 27 v0 rfl rfl) (hf 0 27 d0 rfl rfl) h0
 exact law_calls Try.laidOut (by kernel_rfl) rfl (by kernel_rfl) rfl rfl (mergesMerge_is hx) (.one i0) hW
theorem mergesMerge_holds : Rows.MergesMergeSaid :=
 OpenClaim.holds_of_wide 5 Try.f5 rfl rfl rfl rfl rfl rfl rfl ⟨rfl, rfl, rfl, rfl, rfl⟩ rfl rfl rfl rfl rfl (by kernel_rfl) Try.func5 (by kernel_rfl)
  (of_decide_eq_true (by kernel_rfl)) (by unfold Func.isWrapper; first | (rw [if_pos (by decide +kernel)]; kernel_rfl) | (rw [if_neg (by decide +kernel)]; exact ⟨rfl, rfl⟩))
  (fun os started H enc _ => mergesMerge_lifted os started H enc)
#print axioms mergesMerge_holds
end Go.Proofs.Ytkfpnkpomjmpeaa
