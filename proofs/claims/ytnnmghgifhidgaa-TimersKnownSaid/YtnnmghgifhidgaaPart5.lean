/-
  Lemmas.
  Lemmas.
  Lemmas.
  Lemmas.
  Lemmas.
  Lemmas.
  Lemmas.
  Lemmas.
  Lemmas.
  Lemmas.
  Lemmas.
  Lemmas.
  Lemmas.
  Lemmas.
  Lemmas.
  Lemmas.
  Lemmas.
  Lemmas.
  Lemmas.
  Lemmas.
-/
import Derived.Test.YtnnmghgifhidgaaPart4
set_option linter.unusedSimpArgs false
set_option linter.unusedVariables false
set_option linter.unnecessarySimpa false
set_option linter.deprecated false
namespace Go.Avl
open Go Go.Proofs.Try
set_option maxRecDepth 10000
set_option linter.unusedSimpArgs false

def timBadN (n o : Int) (t : Tim) : Bool := decide (t.1 < 1) || decide (256 < t.1) || decide (t.2.1 < 0) || decide (n ≤ t.2.1) || decide (t.2.2 < 0) || decide (o ≤ t.2.2)
def timOkN (n o : Int) (t : Tim) : Bool := timZ t || !timBadN n o t
def refTimers (n o : Int) (ts : List Tim) : Int := if (ts.length : Int) ≠ n then 16 else if ts.all (timOkN n o) = true then 0 else 1

theorem refTimers_is (nl : Bool) (ts : List Tim) (c : Cp) (n o : Int) (hl : ts.length < 1000000) : PureIs prog 34 [.sl nl (ts.map timC) c, .sc (.int .i64 n), .sc (.int .i64 o)] (.sc (.int .i64 (refTimers n o ts))) := by
  refine PureIs.of (nv := 9) (hid := [12, 16, 37, 71]) func34 rfl (by kernel_rfl) (by simp [ntmps34]) fun _ => ?_
  rw [ntmps34, results34]
  refine EvC.seq (EvC.rg (by (simp only [go_sem]) <;> rfl) rfl ?_)
  refine EvC.seq ?_
  refine EvC.seq (EvC.rg (by (simp only [go_sem]) <;> rfl) rfl ?_)
  refine EvC.cond (by (simp only [go_sem]) <;> rfl) (fun hc => ?_) (fun hc => ?_)
  · refine EvC.seq (EvC.rg (by (simp only [go_sem]) <;> rfl) rfl ?_)
    refine EvC.ret ⟨.inl rfl, _, (by (simp only [go_sem]) <;> rfl), ?_, rfl⟩
    simp only [go_sem]
    rw [refTimers, if_pos (by simpa using hc)]
  have hn : ¬ (ts.length : Int) ≠ n := by simpa using hc
  refine EvC.skip ?_
  refine EvC.seq ?_
  refine EvC.seq (EvC.rg (by (simp only [go_sem]) <;> rfl) rfl ?_)
  refine EvC.block (EvC.loopS (σ := Nat) (fun i => ⟨[(0, .sl nl (ts.map timC) c), (1, .sc (.int .i64 n)), (2, .sc (.int .i64 o)), (7, .sc (.int .i64 i))], [], [], 0⟩) (fun i => ts.length - i) (fun i => i ≤ ts.length ∧ ts.all (timOkN n o) = (ts.drop i).all (timOkN n o)) [0, 1, 2, 7] 0 ?_ ?_)
  · refine ⟨[], 0, rfl, (by (simp only [go_sem]) <;> rfl), Nat.zero_le _, by simp⟩
  rintro i ⟨h1, h2⟩
  refine EvC.seq (EvC.seq (EvC.rg (by (simp only [go_sem]) <;> rfl) rfl ?_))
  refine EvC.cond (by (simp only [go_sem]) <;> rfl) (fun hc => ?_) (fun hc => ?_)
  · refine EvC.skip ?_
    have hi : i < ts.length := by simpa using hc
    have he : ts[i]? = some ts[i] := List.getElem?_eq_getElem hi
    generalize ts[i] = e at he
    have hd : ts.drop i = e :: ts.drop (i + 1) := by
      rw [List.drop_eq_getElem_cons hi]; congr 1; rw [List.getElem?_eq_getElem hi] at he; simpa using he
    refine EvC.seq ?_
    refine EvC.block (EvC.seq (EvC.rg (by (simp only [go_sem, he, timC]) <;> rfl) (by simp) ?_))
    apply EvC.seq
    apply EvC.seq
    apply EvC.trd
    · (simp only [go_sem]) <;> rfl
    · simp
    refine EvC.cond (by (simp only [go_sem]) <;> rfl) (fun hc1 => ?_) (fun hc1 => ?_)
    · refine EvC.exit ?_
      refine EvC.rg (by (simp only [go_sem]) <;> rfl) ?_ ?_
      · exact inI64_of (by omega) (by omega)
      refine ⟨[], i + 1, rfl, (by (simp only [go_sem]) <;> rfl), ⟨by omega, ?_⟩, by omega⟩
      have h : timOkN n o e = true := by unfold timOkN timZ; grind
      rw [h2, hd, List.all_cons, h]; simp
    refine EvC.skip ?_
    apply EvC.seq
    apply EvC.trd
    · (simp only [go_sem]) <;> rfl
    · simp
    refine EvC.cond (by (simp only [go_sem]) <;> rfl) (fun hc2 => ?_) (fun hc2 => ?_)
    · refine EvC.seq (EvC.rg (by (simp only [go_sem]) <;> rfl) rfl ?_)
      refine EvC.ret ⟨.inl rfl, _, (by (simp only [go_sem]) <;> rfl), ?_, rfl⟩
      simp only [go_sem]
      have h : timOkN n o e = false := by unfold timOkN timZ timBadN; grind
      rw [refTimers, if_neg hn, h2, hd, List.all_cons, h]; simp
    · refine EvC.skip ?_
      refine EvC.rg (by (simp only [go_sem]) <;> rfl) ?_ ?_
      · exact inI64_of (by omega) (by omega)
      refine ⟨[], i + 1, rfl, (by (simp only [go_sem]) <;> rfl), ⟨by omega, ?_⟩, by omega⟩
      have h : timOkN n o e = true := by unfold timOkN timZ timBadN; grind
      rw [h2, hd, List.all_cons, h]; simp
  · refine EvC.exit ?_
    have hi : ¬ i < ts.length := by simpa using hc
    refine EvC.seq (EvC.rg (by (simp only [go_sem]) <;> rfl) rfl ?_)
    refine EvC.ret ⟨.inl rfl, _, (by (simp only [go_sem]) <;> rfl), ?_, rfl⟩
    simp only [go_sem]
    rw [refTimers, if_neg hn, h2, List.drop_of_length_le (by omega)]; rfl
end Go.Avl
namespace Go.Avl
open Go Go.Proofs.Try
set_option maxRecDepth 10000
set_option linter.unusedSimpArgs false

def lawCheck (t : Timed) : Int := if checkM t.m = 0 then refTimers t.m.rows.length t.m.outs t.ts else checkM t.m
theorem lawCheck_eq (t : Timed) : lawCheck t = checkT t := by
  unfold lawCheck checkT refTimers
  have : timOkN t.m.rows.length t.m.outs = timOk t.m := rfl
  rw [this]
  by_cases h : checkM t.m = 0 <;> simp [h]

theorem lawCheck_is (t : Timed) (hr : ∀ r ∈ t.m.rows, r.2.length < 1000000) (htl : t.ts.length < 1000000) : PureIs prog 22 [.ag t.cells] (.sc (.int .i64 (lawCheck t))) := by
  refine PureIs.of (nv := 4) (hid := [8]) func22 rfl (by kernel_rfl) (by simp [ntmps22]) fun _ => ?_
  rw [ntmps22, results22]
  refine EvC.seq (EvC.rg (by (simp only [go_sem, Timed.cells]) <;> rfl) rfl ?_)
  apply EvC.seq
  apply EvC.tr
  · apply Tr.run
    · (simp only [go_sem]) <;> rfl
    · simp
    apply Tr.cons
    · exact .call rfl rfl (by (simp only [go_sem]) <;> rfl) (by (simp only [go_sem]) <;> rfl) (by (simp only [go_sem]) <;> rfl) (by (simp only [go_sem]) <;> rfl) (by (simp only [go_sem]) <;> rfl) (check_is t.m hr)
    apply Tr.done
    · (simp only [go_sem]) <;> rfl
    · simp
  refine EvC.seq (EvC.seq (EvC.rg (by (simp only [go_sem]) <;> rfl) (by simp) ?_))
  refine EvC.cond (by (simp only [go_sem]) <;> rfl) (fun hc => ?_) (fun hc => ?_)
  · apply EvC.seq
    apply EvC.tr
    · apply Tr.run
      · (simp only [go_sem]) <;> rfl
      · simp
      apply Tr.cons
      · exact .call rfl rfl (by (simp only [go_sem]) <;> rfl) (by (simp only [go_sem]) <;> rfl) (by (simp only [go_sem]) <;> rfl) (by (simp only [go_sem]) <;> rfl) (by (simp only [go_sem]) <;> rfl) (refTimers_is _ _ _ _ _ htl)
      apply Tr.done
      · (simp only [go_sem]) <;> rfl
      · simp
    refine EvC.ret ⟨.inl rfl, _, (by (simp only [go_sem]) <;> rfl), ?_, rfl⟩
    simp only [go_sem]
    rw [lawCheck, if_pos (by simpa using hc)]
  · refine EvC.skip ?_
    refine EvC.seq (EvC.rg (by (simp only [go_sem]) <;> rfl) (by simp) ?_)
    refine EvC.ret ⟨.inl rfl, _, (by (simp only [go_sem]) <;> rfl), ?_, rfl⟩
    simp only [go_sem]
    rw [lawCheck, if_neg (by simpa using hc)]
end Go.Avl
namespace Go.Avl
open Go Go.Proofs.Try
set_option maxRecDepth 10000
set_option linter.unusedSimpArgs false

theorem clip29_is (nl : Bool) (es : List (List AV)) (c : Cp) (h : (es.all fun y => decide (y.length = 1)) = true) : PureIs prog 29 [.sl nl es c] (.sl nl es .full) := by
  refine PureIs.of (nv := 3) (hid := []) func29 rfl (by kernel_rfl) (by simp [ntmps29]) fun _ => ?_
  rw [ntmps29, results29]
  refine EvC.seq (EvC.rg (by (simp only [go_sem]) <;> rfl) rfl ?_)
  refine EvC.seq (EvC.rg (by (simp only [go_sem]) <;> rfl) (by simp [h]) ?_)
  refine EvC.ret ⟨.inl rfl, _, (by (simp only [go_sem]) <;> rfl), rfl, rfl⟩
theorem clip48_is (nl : Bool) (es : List (List AV)) (c : Cp) (h : (es.all fun y => decide (y.length = 1)) = true) : PureIs prog 48 [.sl nl es c] (.sl nl es .full) := by
  refine PureIs.of (nv := 3) (hid := []) func48 rfl (by kernel_rfl) (by simp [ntmps48]) fun _ => ?_
  rw [ntmps48, results48]
  refine EvC.seq (EvC.rg (by (simp only [go_sem]) <;> rfl) rfl ?_)
  refine EvC.seq (EvC.rg (by (simp only [go_sem]) <;> rfl) (by simp [h]) ?_)
  refine EvC.ret ⟨.inl rfl, _, (by (simp only [go_sem]) <;> rfl), rfl, rfl⟩

def stepM (m : Mach) (s a : Int) : Int × Int := (((m.rows[s.toNat]?).map (·.2)).getD [])[a.toNat]?.getD (-1, -1)
def edgeA (e : Int × Int) : AV := .ag [.sc (.int .i64 e.1), .sc (.int .i64 e.2)]
theorem next04_is (m : Mach) (s a : Int) (r : Row) (e : Int × Int) (hs : 0 ≤ s → m.rows[s.toNat]? = some r) (ha : 0 ≤ s → 0 ≤ a ∧ r.2[a.toNat]? = some e) : PureIs prog 31 [.ag m.cells, .sc (.int .i64 s), .sc (.int .i64 a)] (edgeA (if s < 0 then (-1, -1) else e)) := by
  refine PureIs.of (nv := 7) (hid := [8]) func31 rfl (by kernel_rfl) (by simp [ntmps31]) fun _ => ?_
  rw [ntmps31, results31]
  refine EvC.seq (EvC.rg (by (simp only [go_sem, Mach.cells]) <;> rfl) rfl ?_)
  refine EvC.seq (EvC.seq (EvC.rg (by (simp only [go_sem]) <;> rfl) rfl ?_))
  refine EvC.cond (by (simp only [go_sem]) <;> rfl) (fun hc => ?_) (fun hc => ?_)
  · refine EvC.seq (EvC.rg (by (simp only [go_sem]) <;> rfl) rfl ?_)
    refine EvC.ret ⟨.inl rfl, _, (by (simp only [go_sem]) <;> rfl), ?_, (by unfold edgeA; simp only [go_sem])⟩
    simp only [go_sem]
    rw [if_pos (by simpa using hc)]; rfl
  · have h0 : 0 ≤ s := by simpa using hc
    refine EvC.skip ?_
    refine EvC.seq (EvC.rg (by (simp only [go_sem, hs h0, rowC, (ha h0).2, edgeC]) <;> rfl) ?_ ?_)
    · simp [h0, (ha h0).1]
    refine EvC.ret ⟨.inl rfl, _, (by (simp only [go_sem]) <;> rfl), ?_, (by unfold edgeA; simp only [go_sem])⟩
    simp only [go_sem]
    rw [if_neg (by simpa using hc)]; rfl
end Go.Avl
namespace Go.Avl
open Go Go.Proofs.Try
set_option maxRecDepth 10000
set_option linter.unusedSimpArgs false

def tickR (o : Int) (tm : Tim) (c : Int × Int) : (Int × Int) × Int :=
  if tm.1 = 0 then (c, o) else if c.2 + 1 = tm.1 then ((tm.2.1, 0), tm.2.2) else ((c.1, c.2 + 1), o)

theorem next30_is (t : Timed) (c : Int × Int) (tm : Tim) (h0 : 0 ≤ c.1) (ht : t.ts[c.1.toNat]? = some tm) (hk : -9223372036854775808 ≤ c.2 + 1 ∧ c.2 + 1 ≤ 9223372036854775807) :
    PureIs prog 30 [.ag t.cells, edgeA c] (.tu [edgeA (tickR t.m.outs tm c).1, .sc (.int .i64 (tickR t.m.outs tm c).2)]) := by
  refine PureIs.of (nv := 7) (hid := [15, 25]) func30 rfl (by kernel_rfl) (by simp [ntmps30]) fun _ => ?_
  rw [ntmps30, results30]
  have hI : inI64 (c.2 + 1) = true := inI64_of hk.1 hk.2
  refine EvC.seq (EvC.rg (by (simp only [go_sem, Timed.cells, edgeA]) <;> rfl) rfl ?_)
  refine EvC.seq (EvC.rg (by (simp only [go_sem, ht, timC]) <;> rfl) (by simp [h0]) ?_)
  refine EvC.seq (EvC.seq (EvC.rg (by (simp only [go_sem]) <;> rfl) (by simp) ?_))
  refine EvC.cond (by (simp only [go_sem]) <;> rfl) (fun hc => ?_) (fun hc => ?_)
  · apply EvC.seq
    apply EvC.drd mixed
    · (simp only [go_sem]) <;> rfl
    · simp
    · kernel_rfl
    refine EvC.ret ⟨.inl rfl, _, (by (simp only [go_sem]) <;> rfl), ?_, (by unfold edgeA; simp only [go_sem])⟩
    simp only [go_sem]
    rw [tickR, if_pos (by simpa using hc)]; rfl
  refine EvC.skip ?_
  refine EvC.seq (EvC.seq (EvC.rg (by (simp only [go_sem]) <;> rfl) (by simp [hI]) ?_))
  refine EvC.cond (by (simp only [go_sem]) <;> rfl) (fun hc2 => ?_) (fun hc2 => ?_)
  · apply EvC.seq
    apply EvC.drd mixed
    · (simp only [go_sem]) <;> rfl
    · simp
    · kernel_rfl
    refine EvC.ret ⟨.inl rfl, _, (by (simp only [go_sem]) <;> rfl), ?_, (by unfold edgeA; simp only [go_sem])⟩
    simp only [go_sem]
    rw [tickR, if_neg (by simpa using hc), if_pos (by simpa using hc2)]; rfl
  refine EvC.skip ?_
  apply EvC.seq
  apply EvC.drd mixed
  · (simp only [go_sem]) <;> rfl
  · simp [hI]
  · kernel_rfl
  refine EvC.ret ⟨.inl rfl, _, (by (simp only [go_sem]) <;> rfl), ?_, (by unfold edgeA; simp only [go_sem])⟩
  simp only [go_sem]
  rw [tickR, if_neg (by simpa using hc), if_neg (by simpa using hc2)]; rfl
end Go.Avl
namespace Go.Avl
open Go Go.Proofs.Try
set_option maxRecDepth 10000
set_option linter.unusedSimpArgs false

/-- What a configuration and a reply are read as. -/
def doA (r : (Int × Int) × Int × Bool × Bool) : AV := .tu [edgeA r.1, .sc (.int .i64 r.2.1), .sc (.bool r.2.2.1), .sc (.bool r.2.2.2)]
def doIn (e : Int × Int) : (Int × Int) × Int × Bool × Bool := ((e.1, 0), e.2, true, !decide (e.1 = -1))
theorem doIn_is (t : Timed) (c : Int × Int) (a : Int) (r : Row) (e : Int × Int) (h0 : 0 ≤ c.1) (ha : 0 ≤ a) (hr : t.m.rows[c.1.toNat]? = some r) (he : r.2[a.toNat]? = some e) :
    PureIs prog 27 [.ag t.cells, edgeA c, .ifc 80 (.sc (.int .i64 a))] (doA (doIn e)) := by
  refine PureIs.of (nv := 14) (hid := [14, 16, 17]) func27 rfl (by kernel_rfl) (by simp [ntmps27]) fun _ => ?_
  rw [ntmps27, results27]
  refine EvC.seq (EvC.rg (by (simp only [go_sem, Timed.cells, edgeA]) <;> rfl) rfl ?_)
  refine EvC.seq (EvC.seq (EvC.rg (by (simp only [go_sem]) <;> rfl) rfl ?_))
  refine EvC.block (EvC.seq (EvC.rg (by (simp only [go_sem]) <;> rfl) rfl ?_))
  refine EvC.cond_true (by (simp only [go_sem]) <;> rfl) ?_
  refine EvC.seq (EvC.rg (by (simp only [go_sem]) <;> rfl) rfl ?_)
  refine EvC.seq (EvC.rg (by (simp only [go_sem, hr, rowC, he, edgeC]) <;> rfl) (by simp [h0, ha]) ?_)
  apply EvC.seq
  apply EvC.drd mixed
  · (simp only [go_sem]) <;> rfl
  · simp
  · kernel_rfl
  refine EvC.ret ⟨.inl rfl, _, (by (simp only [go_sem]) <;> rfl), ?_, (by unfold doA edgeA; simp only [go_sem])⟩
  simp only [go_sem]
  rfl

def doTick (tm : Tim) (c : Int × Int) : (Int × Int) × Int × Bool × Bool :=
  if tm.1 = 0 then (c, 0, false, true) else if c.2 + 1 = tm.1 then ((tm.2.1, 0), tm.2.2, true, true) else ((c.1, c.2 + 1), 0, false, true)
theorem doTick_is (t : Timed) (c : Int × Int) (tm : Tim) (h0 : 0 ≤ c.1) (ht : t.ts[c.1.toNat]? = some tm) (hk : -9223372036854775808 ≤ c.2 + 1 ∧ c.2 + 1 ≤ 9223372036854775807) :
    PureIs prog 27 [.ag t.cells, edgeA c, .ifc 77 (.ag [])] (doA (doTick tm c)) := by
  have hI : inI64 (c.2 + 1) = true := inI64_of hk.1 hk.2
  refine PureIs.of (nv := 14) (hid := [14, 16, 17, 37, 38, 47, 57]) func27 rfl (by kernel_rfl) (by simp [ntmps27]) fun _ => ?_
  rw [ntmps27, results27]
  refine EvC.seq (EvC.rg (by (simp only [go_sem, Timed.cells, edgeA]) <;> rfl) rfl ?_)
  refine EvC.seq (EvC.seq (EvC.rg (by (simp only [go_sem]) <;> rfl) rfl ?_))
  refine EvC.block (EvC.seq (EvC.rg (by (simp only [go_sem]) <;> rfl) rfl ?_))
  refine EvC.cond_false (by (simp only [go_sem]) <;> rfl) ?_
  refine EvC.seq (EvC.rg (by (simp only [go_sem]) <;> rfl) rfl ?_)
  refine EvC.cond_true (by (simp only [go_sem]) <;> rfl) ?_
  refine EvC.seq (EvC.rg (by (simp only [go_sem]) <;> rfl) rfl ?_)
  refine EvC.seq (EvC.rg (by (simp only [go_sem, ht, timC]) <;> rfl) (by simp [h0]) ?_)
  refine EvC.seq (EvC.seq (EvC.rg (by (simp only [go_sem]) <;> rfl) (by simp) ?_))
  refine EvC.cond (by (simp only [go_sem]) <;> rfl) (fun hc => ?_) (fun hc => ?_)
  · refine EvC.seq (EvC.rg (by (simp only [go_sem]) <;> rfl) (by simp) ?_)
    refine EvC.ret ⟨.inl rfl, _, (by (simp only [go_sem]) <;> rfl), ?_, (by unfold doA edgeA; simp only [go_sem])⟩
    simp only [go_sem]
    rw [doTick, if_pos (by simpa using hc)]; rfl
  refine EvC.skip ?_
  refine EvC.seq (EvC.rg (by (simp only [go_sem]) <;> rfl) (by simp [hI]) ?_)
  refine EvC.seq (EvC.rg (by (simp only [go_sem]) <;> rfl) (by simp) ?_)
  refine EvC.cond (by (simp only [go_sem]) <;> rfl) (fun hc2 => ?_) (fun hc2 => ?_)
  · apply EvC.seq
    apply EvC.drd mixed
    · (simp only [go_sem]) <;> rfl
    · simp
    · kernel_rfl
    refine EvC.ret ⟨.inl rfl, _, (by (simp only [go_sem]) <;> rfl), ?_, (by unfold doA edgeA; simp only [go_sem])⟩
    simp only [go_sem]
    rw [doTick, if_neg (by simpa using hc), if_pos (by simpa using hc2)]; rfl
  refine EvC.skip ?_
  refine EvC.seq (EvC.rg (by (simp only [go_sem]) <;> rfl) (by simp) ?_)
  refine EvC.ret ⟨.inl rfl, _, (by (simp only [go_sem]) <;> rfl), ?_, (by unfold doA edgeA; simp only [go_sem])⟩
  simp only [go_sem]
  rw [doTick, if_neg (by simpa using hc), if_neg (by simpa using hc2)]; rfl
end Go.Avl
namespace Go.Avl
open Go Go.Proofs.Try
set_option maxRecDepth 10000
set_option linter.unusedSimpArgs false

def lampT (n : Int) : Timed := ⟨⟨1, 2, false, [(false, [(1, 0)]), (false, [(1, 0)])]⟩, false, [(0, 0, 0), (n, 0, 1)]⟩
def lampA (n : Int) : AV := .ag [.sc (.int .i64 1), .sc (.int .i64 2), .sl false [[.sl false [[.sc (.int .i64 1), .sc (.int .i64 0)]] .full], [.sl false [[.sc (.int .i64 1), .sc (.int .i64 0)]] .full]] .full, .sl false [[.sc (.int .i64 0), .sc (.int .i64 0), .sc (.int .i64 0)], [.sc (.int .i64 n), .sc (.int .i64 0), .sc (.int .i64 1)]] .full]
theorem lamp_is (n : Int) : PureIs prog 25 [.sc (.int .i64 n)] (lampA n) := by
  refine PureIs.of (nv := 3) (hid := []) func25 rfl (by kernel_rfl) (by simp [ntmps25]) fun _ => ?_
  rw [ntmps25, results25]
  refine EvC.seq (EvC.rg (by (simp only [go_sem]) <;> rfl) rfl ?_)
  refine EvC.seq (EvC.rg (by (simp only [go_sem, List.set_cons_zero, List.set_cons_succ]) <;> rfl) ?_ ?_)
  · simp
  refine EvC.ret ⟨.inl rfl, _, (by (simp only [go_sem]) <;> rfl), ?_, (by unfold lampA; simp only [go_sem])⟩
  simp only [go_sem]
  rfl
end Go.Avl
namespace Go.Avl
open Go Go.Proofs.Try
set_option maxRecDepth 10000
set_option linter.unusedSimpArgs false

def intC (x : Int) : List AV := [.sc (.int .i64 x)]
@[go_sem] theorem norefs_ints (l : List Int) : (l.map intC).all AV.norefs = true := by simp [List.all_eq_true, intC, AV.norefs, AV.noref]
def orR : List Int → Int
  | [] => 0
  | x :: xs => if x ≠ 0 then x else orR xs
theorem or_is (nl : Bool) (xs : List Int) (c : Cp) (hl : xs.length < 1000000) : PureIs prog 43 [.sl nl (xs.map intC) c] (.sc (.int .i64 (orR xs))) := by
  refine PureIs.of (nv := 6) (hid := [6, 7, 8, 9, 14]) func43 rfl (by kernel_rfl) (by simp [ntmps43]) fun _ => ?_
  rw [ntmps43, results43]
  refine EvC.seq (EvC.rg (by (simp only [go_sem]) <;> rfl) rfl ?_)
  refine EvC.seq (EvC.rg (by (simp only [go_sem]) <;> rfl) rfl ?_)
  refine EvC.seq ?_
  refine EvC.seq (EvC.rg (by (simp only [go_sem]) <;> rfl) rfl ?_)
  refine EvC.block (EvC.loopS (σ := Nat) (fun i => ⟨[(3, .sc (.int .i64 0)), (6, .sl nl (xs.map intC) c), (7, .sc (.int .i64 xs.length)), (8, .sc (.int .i64 i))], [], [], 0⟩) (fun i => xs.length - i) (fun i => i ≤ xs.length ∧ orR xs = orR (xs.drop i)) [3, 6, 7, 8] 0 ?_ ?_)
  · refine ⟨[], 0, rfl, (by (simp only [go_sem]) <;> rfl), Nat.zero_le _, by simp⟩
  rintro i ⟨h1, h2⟩
  refine EvC.seq (EvC.rg (by (simp only [go_sem]) <;> rfl) rfl ?_)
  refine EvC.seq (EvC.cond (by (simp only [go_sem]) <;> rfl) (fun hc => ?_) (fun hc => ?_))
  · refine EvC.skip ?_
    have hi : i < xs.length := by simpa using hc
    have he : xs[i]? = some xs[i] := List.getElem?_eq_getElem hi
    generalize xs[i] = e at he
    have hd : xs.drop i = e :: xs.drop (i + 1) := by
      rw [List.drop_eq_getElem_cons hi]; congr 1; rw [List.getElem?_eq_getElem hi] at he; simpa using he
    refine EvC.seq ?_
    refine EvC.block (EvC.seq (EvC.rg (by (simp only [go_sem, he, intC]) <;> rfl) (by simp) ?_))
    refine EvC.seq (EvC.rg (by (simp only [go_sem]) <;> rfl) (by simp) ?_)
    refine EvC.cond (by (simp only [go_sem]) <;> rfl) (fun hc1 => ?_) (fun hc1 => ?_)
    · refine EvC.seq (EvC.rg (by (simp only [go_sem]) <;> rfl) rfl ?_)
      refine EvC.ret ⟨.inl rfl, _, (by (simp only [go_sem]) <;> rfl), ?_, rfl⟩
      simp only [go_sem]
      rw [h2, hd, orR, if_pos (by simpa using hc1)]
    refine EvC.skip ?_
    refine EvC.rg (by (simp only [go_sem]) <;> rfl) ?_ ?_
    · exact inI64_of (by omega) (by omega)
    refine ⟨[], i + 1, rfl, (by (simp only [go_sem]) <;> rfl), ⟨by omega, ?_⟩, by omega⟩
    rw [h2, hd, orR, if_neg (by simpa using hc1)]
  · refine EvC.exit ?_
    have hi : ¬ i < xs.length := by simpa using hc
    refine EvC.seq (EvC.rg (by (simp only [go_sem]) <;> rfl) rfl ?_)
    refine EvC.ret ⟨.inl rfl, _, (by (simp only [go_sem]) <;> rfl), ?_, rfl⟩
    simp only [go_sem]
    rw [h2, List.drop_of_length_le (by omega)]; rfl
end Go.Avl
namespace Go.Avl
open Go Go.Proofs.Try
set_option maxRecDepth 10000
set_option linter.unusedSimpArgs false

def bothR (a b : Mach) : Int := if checkM a ≠ 0 then checkM a else if checkM b ≠ 0 then checkM b else if a.ins ≠ b.ins then 5 else 0
theorem both_is (a b : Mach) (ha : ∀ r ∈ a.rows, r.2.length < 1000000) (hb : ∀ r ∈ b.rows, r.2.length < 1000000) : PureIs prog 39 [.ag a.cells, .ag b.cells] (.sc (.int .i64 (bothR a b))) := by
  refine PureIs.of (nv := 6) (hid := [20]) func39 rfl (by kernel_rfl) (by simp [ntmps39]) fun _ => ?_
  rw [ntmps39, results39]
  refine EvC.seq (EvC.rg (by (simp only [go_sem, Mach.cells]) <;> rfl) rfl ?_)
  apply EvC.seq
  apply EvC.drw mixed
  · apply Tr.run
    · (simp only [go_sem]) <;> rfl
    · simp
    apply Tr.cons
    · exact .call rfl rfl (by (simp only [go_sem]) <;> rfl) (by (simp only [go_sem]) <;> rfl) (by (simp only [go_sem]) <;> rfl) (by (simp only [go_sem]) <;> rfl) (by (simp only [go_sem]) <;> rfl) (check_is a ha)
    apply Tr.run
    · (simp only [go_sem]) <;> rfl
    · simp
    apply Tr.cons
    · exact .call rfl rfl (by (simp only [go_sem]) <;> rfl) (by (simp only [go_sem]) <;> rfl) (by (simp only [go_sem]) <;> rfl) (by (simp only [go_sem]) <;> rfl) (by (simp only [go_sem]) <;> rfl) (check_is b hb)
    apply Tr.run
    · (simp only [go_sem, List.set_cons_zero, List.set_cons_succ]) <;> rfl
    · simp
    apply Tr.cons
    · exact .call rfl rfl (by (simp only [go_sem]) <;> rfl) (by (simp only [go_sem]) <;> rfl) (by (simp only [go_sem]) <;> rfl) (by (simp only [go_sem]) <;> rfl) (by (simp only [go_sem]) <;> rfl) (or_is false [checkM a, checkM b] .full (by simp))
    apply Tr.done
    · (simp only [go_sem]) <;> rfl
    · simp
  · kernel_rfl
  apply EvC.seq
  apply EvC.seq
  apply EvC.trd
  · (simp only [go_sem]) <;> rfl
  · simp
  have ho : orR [checkM a, checkM b] = if checkM a ≠ 0 then checkM a else checkM b := by
    unfold orR orR orR; by_cases h : checkM a = 0 <;> simp [h] <;> omega
  refine EvC.cond (by (simp only [go_sem]) <;> rfl) (fun hc => ?_) (fun hc => ?_)
  · refine EvC.rg (by (simp only [go_sem]) <;> rfl) rfl ?_
    refine EvC.seq (EvC.rg (by (simp only [go_sem]) <;> rfl) rfl ?_)
    refine EvC.ret ⟨.inl rfl, _, (by (simp only [go_sem]) <;> rfl), ?_, rfl⟩
    simp only [go_sem]
    rw [ho] at hc
    have : bothR a b = 5 := by unfold bothR; grind
    rw [this]
  · refine EvC.skip ?_
    refine EvC.seq (EvC.rg (by (simp only [go_sem]) <;> rfl) rfl ?_)
    refine EvC.ret ⟨.inl rfl, _, (by (simp only [go_sem]) <;> rfl), ?_, rfl⟩
    simp only [go_sem]
    rw [ho] at hc ⊢
    have : bothR a b = if checkM a ≠ 0 then checkM a else checkM b := by unfold bothR; grind
    rw [this]
end Go.Avl
namespace Go.Avl
open Go Go.Proofs.Try
set_option maxRecDepth 10000
set_option linter.unusedSimpArgs false

def repliesR (xs : List (Int × Int)) (code : Int) (ys : List (Int × Int)) : Int := if code ≠ 0 then 0 else if xs.length ≠ ys.length then 0 else if xs = ys then 1 else 0

theorem replies_is (nl : Bool) (xs : List (Int × Int)) (code : Int) (nl2 : Bool) (ys : List (Int × Int)) (c2 : Cp) (hl : xs.length < 1000000) :
    PureIs prog 12 [.sl nl (xs.map edgeC) .full, .sc (.int .i64 code), .sl nl2 (ys.map edgeC) c2] (.sc (.int .i64 (repliesR xs code ys))) := by
  refine PureIs.of (nv := 8) (hid := [23, 27, 38]) func12 rfl (by kernel_rfl) (by simp [ntmps12]) fun _ => ?_
  rw [ntmps12, results12]
  refine EvC.seq (EvC.rg (by (simp only [go_sem]) <;> rfl) rfl ?_)
  apply EvC.seq
  apply EvC.seq
  apply EvC.trd
  · (simp only [go_sem]) <;> rfl
  · simp
  refine EvC.cond (by (simp only [go_sem]) <;> rfl) (fun hc => ?_) (fun hc => ?_)
  · refine EvC.seq (EvC.rg (by (simp only [go_sem]) <;> rfl) rfl ?_)
    refine EvC.ret ⟨.inl rfl, _, (by (simp only [go_sem]) <;> rfl), ?_, rfl⟩
    simp only [go_sem]
    have : repliesR xs code ys = 0 := by unfold repliesR; grind
    rw [this]
  have hn : code = 0 ∧ xs.length = ys.length := by grind
  refine EvC.skip ?_
  refine EvC.seq ?_
  refine EvC.seq (EvC.rg (by (simp only [go_sem]) <;> rfl) rfl ?_)
  refine EvC.block (EvC.loopS (σ := Nat) (fun i => ⟨[(0, .sl nl (xs.map edgeC) .full), (2, .sl nl2 (ys.map edgeC) c2), (7, .sc (.int .i64 i))], [], [], 0⟩) (fun i => xs.length - i) (fun i => i ≤ xs.length ∧ xs.take i = ys.take i) [0, 2, 7] 0 ?_ ?_)
  · refine ⟨[], 0, rfl, (by (simp only [go_sem]) <;> rfl), Nat.zero_le _, by simp⟩
  rintro i ⟨h1, h2⟩
  refine EvC.seq (EvC.seq (EvC.rg (by (simp only [go_sem]) <;> rfl) rfl ?_))
  refine EvC.cond (by (simp only [go_sem]) <;> rfl) (fun hc => ?_) (fun hc => ?_)
  · refine EvC.skip ?_
    have hi : i < xs.length := by simpa using hc
    have he : xs[i]? = some xs[i] := List.getElem?_eq_getElem hi
    have hj : ys[i]? = some (ys[i]'(by omega)) := List.getElem?_eq_getElem _
    generalize hx : xs[i] = e at he
    generalize hy : ys[i]'(by omega) = f at hj
    refine EvC.seq ?_
    apply EvC.block
    apply EvC.seq
    apply EvC.drd mixed
    · (simp only [go_sem, he, hj, edgeC]) <;> rfl
    · simp
    · kernel_rfl
    refine EvC.cond (by (simp only [go_sem]) <;> rfl) (fun hc1 => ?_) (fun hc1 => ?_)
    · refine EvC.seq (EvC.rg (by (simp only [go_sem]) <;> rfl) rfl ?_)
      refine EvC.ret ⟨.inl rfl, _, (by (simp only [go_sem]) <;> rfl), ?_, rfl⟩
      simp only [go_sem]
      have hne : xs ≠ ys := by
        rintro rfl
        rw [he] at hj; cases hj
        simp at hc1
      simp [repliesR, hne]
    refine EvC.skip ?_
    refine EvC.rg (by (simp only [go_sem]) <;> rfl) ?_ ?_
    · exact inI64_of (by omega) (by omega)
    refine ⟨[], i + 1, rfl, (by (simp only [go_sem]) <;> rfl), ⟨by omega, ?_⟩, by omega⟩
    have hef : e = f := by
      obtain ⟨e1, e2⟩ := e; obtain ⟨f1, f2⟩ := f
      simpa using hc1
    rw [List.take_add_one, List.take_add_one, h2, he, hj, hef]
  · refine EvC.exit ?_
    have hi : ¬ i < xs.length := by simpa using hc
    refine EvC.seq (EvC.rg (by (simp only [go_sem]) <;> rfl) rfl ?_)
    refine EvC.ret ⟨.inl rfl, _, (by (simp only [go_sem]) <;> rfl), ?_, rfl⟩
    simp only [go_sem]
    have : xs = ys := by rw [List.take_of_length_le (by omega), List.take_of_length_le (by omega)] at h2; exact h2
    simp [repliesR, hn.1, this]
end Go.Avl
namespace Go.Avl
open Go Go.Proofs.Try
set_option maxRecDepth 10000
set_option linter.unusedSimpArgs false

/-- A valid machine's rows and edges. -/
structure Valid (m : Mach) : Prop where
  ins : 1 ≤ m.ins ∧ m.ins ≤ 16
  outs : 1 ≤ m.outs ∧ m.outs ≤ 16
  rows : 1 ≤ m.rows.length ∧ m.rows.length ≤ 64
  row : ∀ r ∈ m.rows, (r.2.length : Int) = m.ins ∧ ∀ e ∈ r.2, fitsR m.rows.length m.outs e.1 e.2 = true
theorem Valid.of {m : Mach} (h : checkM m = 0) : Valid m := by
  unfold checkM at h
  split at h
  · cases h
  · split at h
    · cases h
    · split at h
      · rename_i h1 h2 h3
        rw [List.all_eq_true] at h3
        refine ⟨by omega, by omega, by omega, fun r hr => ?_⟩
        have := h3 r hr
        simp only [rowOk, Bool.and_eq_true, decide_eq_true_eq, Bool.not_eq_true', List.any_eq_false] at this
        exact ⟨this.1, fun e he => by simpa using this.2 e he⟩
      · cases h
def stepR (m : Mach) (s a : Int) : Int × Int := if s < 0 then (-1, -1) else (((m.rows[s.toNat]?).map (·.2)).getD [])[a.toNat]?.getD (-1, -1)
theorem stepR_get {m : Mach} (hv : Valid m) {s a : Int} (h0 : 0 ≤ s) (hs : s < m.rows.length) (ha : 0 ≤ a ∧ a < m.ins) :
    ∃ r e, m.rows[s.toNat]? = some r ∧ r.2[a.toNat]? = some e ∧ stepR m s a = e ∧ fitsR m.rows.length m.outs e.1 e.2 = true := by
  have h1 : m.rows[s.toNat]? = some m.rows[s.toNat] := List.getElem?_eq_getElem (by omega)
  obtain ⟨h2, h3⟩ := hv.row _ (List.getElem_mem (show s.toNat < m.rows.length by omega))
  have h4 : (m.rows[s.toNat]).2[a.toNat]? = some ((m.rows[s.toNat]).2[a.toNat]'(by omega)) := List.getElem?_eq_getElem _
  exact ⟨_, _, h1, h4, by rw [stepR, if_neg (by omega), h1]; simp only [Option.map_some, Option.getD_some, h4], h3 _ (List.getElem_mem _)⟩

theorem stepR_is {m : Mach} (hv : Valid m) {s a : Int} (hs : s < m.rows.length) (ha : 0 ≤ a ∧ a < m.ins) : PureIs prog 31 [.ag m.cells, .sc (.int .i64 s), .sc (.int .i64 a)] (edgeA (stepR m s a)) := by
  by_cases h0 : 0 ≤ s
  · obtain ⟨r, e, h1, h2, h3, _⟩ := stepR_get hv h0 hs ha
    have := next04_is m s a r e (fun _ => h1) (fun _ => ⟨ha.1, h2⟩)
    rw [if_neg (by omega)] at this
    rw [h3]; exact this
  · have := next04_is m s a (false, []) (0, 0) (fun h => absurd h h0) (fun h => absurd h h0)
    rw [if_pos (by omega)] at this
    rw [stepR, if_pos (by omega)]; exact this
end Go.Avl
namespace Go.Avl
open Go Go.Proofs.Try
set_option maxRecDepth 10000
set_option linter.unusedSimpArgs false

def runR (m : Mach) : Int → List Int → List Int
  | _, [] => []
  | s, a :: w => (stepR m s a).2 :: runR m (stepR m s a).1 w
theorem stepR_lt {m : Mach} (hv : Valid m) {s a : Int} (hs : s < m.rows.length) (ha : 0 ≤ a ∧ a < m.ins) : (stepR m s a).1 < m.rows.length := by
  by_cases h0 : 0 ≤ s
  · obtain ⟨r, e, _, _, h3, h4⟩ := stepR_get hv h0 hs ha
    rw [h3]
    have := hv.rows
    unfold fitsR at h4
    simp at h4; omega
  · rw [stepR, if_pos (by omega)]; have := hv.rows; simp only; omega

theorem run04_is {m : Mach} (hv : Valid m) (s : Int) (hs : s < m.rows.length) (nl : Bool) (w : List Int) (c : Cp) (hw : ∀ a ∈ w, 0 ≤ a ∧ a < m.ins) (hl : w.length < 1000000) :
    PureIs prog 18 [.ag m.cells, .sc (.int .i64 s), .sl nl (w.map intC) c] (.sl (runR m s w).isEmpty ((runR m s w).map intC) .unk) := by
  refine PureIs.of (nv := 10) (hid := [13]) func18 rfl (by kernel_rfl) (by simp [ntmps18]) fun _ => ?_
  rw [ntmps18, results18]
  refine EvC.seq (EvC.rg (by (simp only [go_sem, Mach.cells]) <;> rfl) rfl ?_)
  refine EvC.frzB 0 (by (simp only [go_sem]) <;> rfl) ?_
  refine EvC.seq (EvC.rg (by (simp only [go_sem]) <;> rfl) rfl ?_)
  refine EvC.seq ?_
  refine EvC.seq (EvC.rg (by (simp only [go_sem]) <;> rfl) rfl ?_)
  refine EvC.block (EvC.loopS (σ := Nat × Int × List Int) (fun g => ⟨[(1, .sc (.int .i64 g.2.1)), (2, .sl nl (w.map intC) c), (3, .ia m.cells), (7, .tl 0 g.2.2.length g.2.2.isEmpty), (8, .sc (.int .i64 g.1))], [], [(0, .arr 1 (g.2.2.map intC) true)], 1⟩) (fun g => w.length - g.1)
    (fun g => g.1 ≤ w.length ∧ g.2.1 < m.rows.length ∧ runR m s w = g.2.2 ++ runR m g.2.1 (w.drop g.1) ∧ g.2.2.length = g.1) [1, 2, 3, 7, 8] 1 ?_ ?_)
  · refine ⟨[(2, 0)], (0, s, []), rfl, (by (simp only [go_sem, Mach.cells]) <;> rfl), Nat.zero_le _, hs, by simp, rfl⟩
  rintro ⟨i, t, os⟩ ⟨h1, h2, h3, h4⟩
  simp only at h1 h2 h3 h4
  refine EvC.seq (EvC.seq (EvC.rg (by (simp only [go_sem]) <;> rfl) rfl ?_))
  refine EvC.cond (by (simp only [go_sem]) <;> rfl) (fun hc => ?_) (fun hc => ?_)
  · refine EvC.skip ?_
    have hi : i < w.length := by simpa using hc
    have he : w[i]? = some w[i] := List.getElem?_eq_getElem hi
    generalize w[i] = a at he
    have ha := hw a (List.mem_of_getElem? he)
    have hd : w.drop i = a :: w.drop (i + 1) := by
      rw [List.drop_eq_getElem_cons hi]; congr 1; rw [List.getElem?_eq_getElem hi] at he; simpa using he
    have hstep := stepR_is hv h2 ha
    refine EvC.seq ?_
    apply EvC.block
    apply EvC.seq
    apply EvC.drw mixed
    · apply Tr.run
      · (simp only [go_sem, Mach.cells, he, intC]) <;> rfl
      · simp
      apply Tr.cons
      · exact .call rfl rfl (by (simp only [go_sem]) <;> rfl) (by (simp only [go_sem]) <;> rfl) (by (simp only [go_sem]) <;> rfl) (by (simp only [go_sem]) <;> rfl) (by (simp only [go_sem]) <;> rfl) hstep
      apply Tr.done
      · (simp only [go_sem, edgeA]) <;> rfl
      · simp
    · kernel_rfl
    refine EvC.seq (EvC.rg (by (simp only [go_sem, List.set_cons_zero]) <;> rfl) ?_ ?_)
    · simp [room_eq]; omega
    refine EvC.rg (by (simp only [go_sem]) <;> rfl) (by simp) ?_
    refine EvC.rg (by (simp only [go_sem]) <;> rfl) ?_ ?_
    · exact inI64_of (by omega) (by omega)
    refine ⟨[(0, 0)], (i + 1, (stepR m t a).1, os ++ [(stepR m t a).2]), rfl, ?_, ⟨by omega, stepR_lt hv h2 ha, ?_, by simp [h4]⟩, by simp; omega⟩
    · (simp only [go_sem, Mach.cells, intC, List.length_append]) <;> rfl
    · rw [h3, hd, runR]; simp
  · refine EvC.exit ?_
    have hi : ¬ i < w.length := by simpa using hc
    have hr : runR m s w = os := by rw [h3, List.drop_of_length_le (by omega), runR, List.append_nil]
    refine EvC.frz 0 (by (simp only [go_sem]) <;> rfl) ?_
    refine EvC.seq (EvC.rg (by (simp only [go_sem]) <;> rfl) rfl ?_)
    refine EvC.ret ⟨.inl rfl, _, (by (simp only [go_sem]) <;> rfl), ?_, rfl⟩
    simp only [go_sem]
    rw [hr]
end Go.Avl
namespace Go.Avl
open Go Go.Proofs.Try
set_option maxRecDepth 10000
set_option linter.unusedSimpArgs false

theorem index49_is (nl : Bool) (xs : List (Int × Int)) (c : Cp) (v : Int × Int) (hl : xs.length < 1000000) :
    PureIs prog 49 [.sl nl (xs.map edgeC) c, edgeA v] (.sc (.int .i64 (findIdxR (fun e => decide (e = v)) xs 0))) := by
  refine PureIs.of (nv := 2) (hid := [3, 4, 5, 7, 8, 9, 16]) func49 rfl (by kernel_rfl) (by simp [ntmps49]) fun _ => ?_
  rw [ntmps49, results49]
  refine EvC.seq (EvC.rg (by (simp only [go_sem, edgeA]) <;> rfl) (by simp) ?_)  -- R0
  refine EvC.seq ?_
  refine EvC.seq (EvC.rg (by (simp only [go_sem]) <;> rfl) (by simp) ?_)  -- R1
  refine EvC.block ?_  -- 0
  refine EvC.loopS (σ := Nat) (fun i => ⟨[(0, .sl nl (xs.map edgeC) c), (3, .rf 0 0), (7, .sc (.int .i64 xs.length)), (8, .sc (.int .i64 i))], [], [(0, .cells (edgeC v))], 1⟩) (fun i => xs.length - i)
    (fun i => i ≤ xs.length ∧ findIdxR (fun e => decide (e = v)) xs 0 = findIdxR (fun e => decide (e = v)) (xs.drop i) i) [0, 3, 7, 8] 1 ?_ ?_
  · refine ⟨[(0, 0)], 0, rfl, (by (simp only [go_sem, edgeC]) <;> rfl), Nat.zero_le _, by simp⟩
  rintro i ⟨h1, h2⟩
  refine EvC.seq (EvC.rg (by (simp only [go_sem]) <;> rfl) (by simp) ?_)  -- R2
  refine EvC.seq ?_
  refine EvC.cond (by (simp only [go_sem]) <;> rfl) (fun hc => ?_) (fun hc => ?_)
  rotate_left
  · refine EvC.exit ?_
    have hi : ¬ i < xs.length := by simpa using hc
    refine EvC.seq (EvC.rg (by (simp only [go_sem]) <;> rfl) (by simp) ?_)  -- R7
    refine EvC.ret ⟨.inl rfl, _, (by (simp only [go_sem]) <;> rfl), ?_, rfl⟩
    simp only [go_sem]
    rw [h2, List.drop_of_length_le (by omega)]; rfl
  refine EvC.skip ?_
  have hi : i < xs.length := by simpa using hc
  have he : xs[i]? = some xs[i] := List.getElem?_eq_getElem hi
  have hd : xs.drop i = xs[i] :: xs.drop (i + 1) := List.drop_eq_getElem_cons hi
  generalize xs[i] = e at he hd
  refine EvC.seq ?_
  refine EvC.block ?_  -- 1
  refine EvC.seq (EvC.rg (by (simp only [go_sem]) <;> rfl) (by simp) ?_)  -- R3
  apply EvC.seq  -- R4
  apply EvC.drd mixed
  · (simp only [go_sem, he, edgeC]) <;> rfl
  · simp
  · kernel_rfl
  have hev : (decide (v.1 = e.1) && (decide (v.2 = e.2) && true)) = decide (e = v) := by
    obtain ⟨a, b⟩ := e; obtain ⟨c, d⟩ := v
    by_cases h1 : a = c <;> by_cases h2 : b = d <;> simp [h1, h2, eq_comm]
  refine EvC.cond (by (simp only [go_sem]) <;> rfl) (fun hc => ?_) (fun hc => ?_)
  · refine EvC.seq (EvC.rg (by (simp only [go_sem]) <;> rfl) (by simp) ?_)  -- R5
    refine EvC.ret ⟨.inl rfl, _, (by (simp only [go_sem]) <;> rfl), ?_, rfl⟩
    simp only [go_sem]
    have : decide (e = v) = true := by rw [← hev]; simpa using hc
    rw [h2, hd, findIdxR, if_pos this]
  refine EvC.skip ?_
  refine EvC.rg (by (simp only [go_sem]) <;> rfl) (inI64_of (by omega) (by omega)) ?_  -- R6
  refine ⟨[(0, 0)], i + 1, rfl, (by (simp only [go_sem]) <;> rfl), ⟨by omega, ?_⟩, by omega⟩
  have : ¬ decide (e = v) = true := by rw [← hev]; simpa using hc
  rw [h2, hd, findIdxR, if_neg this]; rfl

theorem any_mem (xs : List (Int × Int)) (v : Int × Int) : (xs.any fun e => decide (e = v)) = decide (v ∈ xs) := by
  rw [Bool.eq_iff_iff]; simp

theorem contains46_is (nl : Bool) (xs : List (Int × Int)) (c : Cp) (v : Int × Int) (hl : xs.length < 1000000) :
    PureIs prog 46 [.sl nl (xs.map edgeC) c, edgeA v] (.sc (.bool (decide (v ∈ xs)))) := by
  refine PureIs.of (nv := 2) (hid := [3, 4]) func46 rfl (by kernel_rfl) (by simp [ntmps46]) fun _ => ?_
  rw [ntmps46, results46]
  refine EvC.seq (EvC.rg (by (simp only [go_sem, edgeA]) <;> rfl) (by simp) ?_)  -- R0
  apply EvC.seq  -- R1
  apply EvC.tr
  · apply Tr.run
    · (simp only [go_sem]) <;> rfl
    · simp
    apply Tr.cons
    · exact .call rfl rfl (by (simp only [go_sem]) <;> rfl) (by (simp only [go_sem]) <;> rfl) (by (simp only [go_sem]) <;> rfl) (by (simp only [go_sem]) <;> rfl) (by (simp only [go_sem]) <;> rfl) (index49_is nl xs c v hl)
    apply Tr.done
    · (simp only [go_sem]) <;> rfl
    · simp
  refine EvC.ret ⟨.inl rfl, _, (by (simp only [go_sem]) <;> rfl), ?_, rfl⟩
  simp only [go_sem]
  rw [findIdxR_any _ _ _ (Int.le_refl 0), any_mem]

abbrev Arr := (Int × Int) × Int × Int
def arrC (a : Arr) : List AV := [.sc (.int .i64 a.1.1), .sc (.int .i64 a.1.2), .sc (.int .i64 a.2.1), .sc (.int .i64 a.2.2)]
@[go_sem] theorem norefs_arrs (l : List Arr) : (l.map arrC).all AV.norefs = true := by simp [List.all_eq_true, arrC, AV.norefs, AV.noref]
/-- The word that leads to an arrival. -/
def wordR (l : List Arr) : Nat → Int → List Int → List Int
  | 0, _, acc => acc
  | n + 1, at', acc => match l[at'.toNat]? with
    | some a => if a.2.1 = -1 then acc else wordR l n a.2.1 (a.2.2 :: acc)
    | none => acc
def WfArr (l : List Arr) : Prop := ∀ (i : Nat) (a : Arr), l[i]? = some a → -1 ≤ a.2.1 ∧ a.2.1 < i

theorem word_is (nl : Bool) (l : List Arr) (c : Cp) (hw : WfArr l) (at' : Int) (h0 : 0 ≤ at') (ha : at' < l.length) (acc : List Int) (c2 : Cp) (hl : l.length + acc.length < 1000000) :
    PureIs prog 45 [.sl nl (l.map arrC) c, .sc (.int .i64 at'), .sl false (acc.map intC) c2] (.sl false ((wordR l l.length at' acc).map intC) .full) := by
  refine PureIs.of (nv := 3) (hid := [6, 12]) func45 rfl (by kernel_rfl) (by simp [ntmps45]) fun _ => ?_
  rw [ntmps45, results45]
  refine EvC.seq (EvC.rg (by (simp only [go_sem]) <;> rfl) (by simp) ?_)  -- R0
  refine EvC.seq ?_
  refine EvC.block ?_  -- 0
  refine EvC.loopS (σ := Int × List Int × Cp) (fun g => ⟨[(0, .sl nl (l.map arrC) c), (1, .sc (.int .i64 g.1)), (2, .sl false (g.2.1.map intC) g.2.2)], [], [], 0⟩) (fun g => g.1.toNat)
    (fun g => 0 ≤ g.1 ∧ g.1 < l.length ∧ g.2.1.length + g.1 < 1000000 ∧ ∃ n : Nat, g.1 < n ∧ wordR l l.length at' acc = wordR l n g.1 g.2.1) [0, 1, 2] 0 ?_ ?_
  · refine ⟨[], (at', acc, c2), rfl, (by (simp only [go_sem]) <;> rfl), h0, ha, ?_, l.length, by omega, rfl⟩
    simp only; omega
  rintro ⟨t, xs, c3⟩ ⟨h1, h2, h3, n, h4, h5⟩
  simp only at h1 h2 h3 h4 h5
  have hi : t.toNat < l.length := by omega
  have he : l[t.toNat]? = some l[t.toNat] := List.getElem?_eq_getElem hi
  generalize l[t.toNat] = a at he
  obtain ⟨w1, w2⟩ := hw _ _ he
  refine EvC.seq ?_
  refine EvC.seq (EvC.rg (by (simp only [go_sem, he, arrC]) <;> rfl) (by simp [h1]) ?_)  -- R1
  refine EvC.cond (by (simp only [go_sem]) <;> rfl) (fun hc => ?_) (fun hc => ?_)
  rotate_left
  · refine EvC.exit ?_
    have hc : a.2.1 = -1 := by simpa using hc
    apply EvC.seq  -- R4
    apply EvC.tr
    · apply Tr.run
      · (simp only [go_sem]) <;> rfl
      · simp
      apply Tr.cons
      · exact .call rfl rfl (by (simp only [go_sem]) <;> rfl) (by (simp only [go_sem]) <;> rfl) (by (simp only [go_sem]) <;> rfl) (by (simp only [go_sem]) <;> rfl) (by (simp only [go_sem]) <;> rfl) (clip48_is false (xs.map intC) c3 (by simp [intC]))
      apply Tr.done
      · (simp only [go_sem]) <;> rfl
      · simp
    refine EvC.ret ⟨.inl rfl, _, (by (simp only [go_sem]) <;> rfl), ?_, rfl⟩
    simp only [go_sem]
    rw [h5]
    obtain ⟨m, rfl⟩ : ∃ m, n = m + 1 := ⟨n - 1, by omega⟩
    simp only [wordR, he, hc, if_true]
  have hc : a.2.1 ≠ -1 := by simpa using hc
  refine EvC.skip ?_
  refine EvC.block ?_  -- 1
  refine EvC.seq (EvC.rg (by (simp only [go_sem, he, arrC, List.set_cons_zero]) <;> rfl) ?_ ?_)  -- R2
  · have hx : xs.length < 1000000 := by omega
    simp [h1, room_eq, intC, AV.norefs, AV.noref]; omega
  refine EvC.rg (by (simp only [go_sem, he, arrC]) <;> rfl) (by simp [h1]) ?_  -- R3
  refine ⟨[], (a.2.1, a.2.2 :: xs, .unk), rfl, (by (simp only [go_sem, intC]) <;> rfl), ⟨?_, ?_, ?_, n - 1, ?_, ?_⟩, ?_⟩
  all_goals simp only [List.length_cons]
  · omega
  · omega
  · omega
  · omega
  · rw [h5]
    obtain ⟨m, rfl⟩ : ∃ m, n = m + 1 := ⟨n - 1, by omega⟩
    simp only [wordR, he, if_neg hc, Nat.add_sub_cancel]
  · omega
end Go.Avl
namespace Go.Avl
open Go Go.Proofs.Try
set_option maxRecDepth 10000
set_option linter.unusedSimpArgs false

/-! ### Lists without repetition -/
theorem nodup_bound : ∀ (n : Nat) (l : List Nat), l.Nodup → (∀ x ∈ l, x < n) → l.length ≤ n
  | 0, [], _, _ => Nat.le_refl _
  | 0, x :: _, _, h => absurd (h x List.mem_cons_self) (Nat.not_lt_zero _)
  | n + 1, l, hn, h => by
    have h1 := nodup_bound n (l.filter (fun x => decide (x ≠ n))) (hn.filter _) fun x hx => by
      obtain ⟨h2, h3⟩ := List.mem_filter.1 hx
      have := h x h2
      have h3 : x ≠ n := by simpa using h3
      omega
    have h2 : (l.filter (fun x => decide (x = n))).length ≤ 1 := by
      have h3 : ∀ x ∈ l.filter (fun x => decide (x = n)), x = n := fun x hx => by simpa using (List.mem_filter.1 hx).2
      have h4 := hn.filter (fun x => decide (x = n))
      generalize l.filter (fun x => decide (x = n)) = m at h3 h4
      match m, h3, h4 with
      | [], _, _ => simp
      | [_], _, _ => simp
      | x :: y :: m, h3, h4 =>
        have e1 := h3 x (by simp)
        have e2 := h3 y (by simp)
        subst e1; subst e2
        simp at h4
    have h3 : l.length = (l.filter (fun x => decide (x ≠ n))).length + (l.filter (fun x => decide (x = n))).length := by
      clear hn h h1 h2
      induction l with
      | nil => rfl
      | cons x l ih =>
        by_cases hx : x = n <;> simp [List.filter_cons, hx, ih] <;> omega
    omega

theorem pairs_bound (l : List (Int × Int)) (hn : l.Nodup) (h : ∀ p ∈ l, 0 ≤ p.1 ∧ p.1 < 64 ∧ 0 ≤ p.2 ∧ p.2 < 64) : l.length ≤ 4096 := by
  have := nodup_bound 4096 (l.map fun p => p.1.toNat * 64 + p.2.toNat) (by
    refine List.Pairwise.map _ (R := fun a b => a ∈ l ∧ b ∈ l ∧ a ≠ b) ?_ ?_
    · rintro ⟨a, b⟩ ⟨c, d⟩ ⟨h1, h2, h3⟩ h4
      have k1 := h _ h1
      have k2 := h _ h2
      simp only at k1 k2 h4
      exact h3 (by rw [Prod.mk.injEq]; omega)
    · exact List.Pairwise.imp_of_mem (fun h1 h2 h3 => ⟨h1, h2, h3⟩) hn) (by
    intro x hx
    obtain ⟨p, hp, rfl⟩ := List.mem_map.1 hx
    have := h p hp; omega)
  simpa using this

/-! ### What two machines do after the same words -/
/-- A yield: at, input, both edges, the arrivals so far. -/
structure Yld where
  at' : Int
  inp : Int
  x : Int × Int
  y : Int × Int
  l : List Arr
def meetA (z : Yld) : AV := .ag [.sc (.int .i64 z.at'), .sc (.int .i64 z.inp), .sc (.int .i64 z.x.1), .sc (.int .i64 z.x.2), .sc (.int .i64 z.y.1), .sc (.int .i64 z.y.2)]
def yldC (z : Yld) : List AV := [meetA z, .sl false (z.l.map arrC) .unk]
def nextL (at' i : Int) (x y : Int × Int) (l : List Arr) : List Arr :=
  if x.1 ≠ -1 ∧ y.1 ≠ -1 ∧ (x.1, y.1) ∉ l.map (·.1) then l ++ [((x.1, y.1), at', i)] else l
def inR (a b : Mach) (at' s t : Int) : Nat → Nat → List Arr → List Yld × List Arr
  | 0, _, l => ([], l)
  | n + 1, i, l => (⟨at', i, stepR a s i, stepR b t i, l⟩ :: (inR a b at' s t n (i + 1) (nextL at' i (stepR a s i) (stepR b t i) l)).1, (inR a b at' s t n (i + 1) (nextL at' i (stepR a s i) (stepR b t i) l)).2)
def outR (a b : Mach) : Nat → Nat → List Arr → List Yld
  | 0, _, _ => []
  | n + 1, at', l => match l[at']? with
    | none => []
    | some p => (inR a b at' p.1.1 p.1.2 a.ins.toNat 0 l).1 ++ outR a b n (at' + 1) (inR a b at' p.1.1 p.1.2 a.ins.toNat 0 l).2
def arr0 : List Arr := [((0, 0), -1, 0)]
def meetsR (a b : Mach) : List Yld := outR a b 5000 0 arr0

structure GoodL (a b : Mach) (l : List Arr) : Prop where
  nd : (l.map (·.1)).Nodup
  rng : ∀ p ∈ l, 0 ≤ p.1.1 ∧ p.1.1 < a.rows.length ∧ 0 ≤ p.1.2 ∧ p.1.2 < b.rows.length
  wf : WfArr l
theorem GoodL.len {a b : Mach} (ha : Valid a) (hb : Valid b) {l : List Arr} (h : GoodL a b l) : l.length ≤ 4096 := by
  have := pairs_bound (l.map (·.1)) h.nd fun p hp => by
    obtain ⟨q, hq, rfl⟩ := List.mem_map.1 hp
    have := h.rng q hq
    have h1 := ha.rows; have h2 := hb.rows; omega
  simpa using this
theorem GoodL.zero {a b : Mach} (ha : Valid a) (hb : Valid b) : GoodL a b arr0 := by
  have h1 := ha.rows
  have h2 := hb.rows
  refine ⟨by simp [arr0], ?_, ?_⟩
  · intro p hp
    simp only [arr0, List.mem_singleton] at hp
    subst hp
    simp only; omega
  · intro i p hp
    cases i with
    | zero => simp only [arr0, List.getElem?_cons_zero, Option.some.injEq] at hp; subst hp; simp
    | succ i => simp [arr0] at hp
theorem GoodL.next {a b : Mach} (ha : Valid a) (hb : Valid b) {l : List Arr} (h : GoodL a b l) {at' : Nat} (hat : at' < l.length) {i : Int} {s t : Int} (hs : 0 ≤ s ∧ s < a.rows.length) (ht : 0 ≤ t ∧ t < b.rows.length) (hi : 0 ≤ i ∧ i < a.ins) (hab : a.ins = b.ins) :
    GoodL a b (nextL at' i (stepR a s i) (stepR b t i) l) ∧ at' < (nextL at' i (stepR a s i) (stepR b t i) l).length := by
  unfold nextL
  split
  · rename_i hx
    obtain ⟨h1, h2, h3⟩ := hx
    obtain ⟨_, _, _, _, e1, f1⟩ := stepR_get ha hs.1 hs.2 hi
    obtain ⟨_, _, _, _, e2, f2⟩ := stepR_get hb ht.1 ht.2 (by rw [← hab]; exact hi)
    rw [← e1] at f1
    rw [← e2] at f2
    refine ⟨⟨?_, ?_, ?_⟩, by simp; omega⟩
    · rw [List.map_append, List.nodup_append]
      refine ⟨h.nd, by simp, ?_⟩
      rintro p hp q hq rfl
      simp only [List.map_cons, List.map_nil, List.mem_singleton] at hq
      subst hq
      exact h3 hp
    · intro p hp
      rcases List.mem_append.1 hp with hp | hp
      · exact h.rng p hp
      · simp only [List.mem_singleton] at hp
        subst hp
        unfold fitsR at f1 f2
        simp at f1 f2
        simp only; omega
    · intro j p hp
      by_cases hj : j < l.length
      · rw [List.getElem?_append_left hj] at hp; exact h.wf j p hp
      · rw [List.getElem?_append_right (by omega)] at hp
        by_cases h0 : j - l.length = 0
        · rw [h0] at hp
          simp only [List.getElem?_cons_zero, Option.some.injEq] at hp
          subst hp
          simp only; omega
        · obtain ⟨m, hm⟩ : ∃ m, j - l.length = m + 1 := ⟨j - l.length - 1, by omega⟩
          rw [hm] at hp; simp at hp
  · exact ⟨h, hat⟩
end Go.Avl
namespace Go.Avl
open Go Go.Proofs.Try
set_option maxRecDepth 10000
set_option linter.unusedSimpArgs false

def pairV (p : Int × Int) : Value := .agg [Value.int .i64 p.1, .int .i64 p.2].toArray
def seenE (a : Arr) : Value × AV := (pairV a.1, .sc (.bool true))
@[go_sem] theorem key111 : isKey prog 111 = keyTest true [.int .i64, .int .i64] := isKey_of (by kernel_rfl) (by kernel_rfl)
@[go_sem] theorem norefs_seen (l : List Arr) : ((l.map seenE).all fun p => p.2.noref) = true := by simp [List.all_eq_true, seenE, AV.noref]
theorem eqVal_pair (p q : Int × Int) : eqVal (pairV p) (pairV q) = decide (p = q) := by
  obtain ⟨a, b⟩ := p; obtain ⟨c, d⟩ := q
  simp [eqVal, pairV, Value.cells, eqCells, eqCell]
theorem elook_seen (l : List Arr) (p : Int × Int) : elook (l.map seenE) (pairV p) = if p ∈ l.map (·.1) then some (.sc (.bool true)) else none := by
  induction l with
  | nil => rfl
  | cons a l ih =>
    simp only [List.map_cons, seenE, elook, eqVal_pair, List.mem_cons]
    by_cases h : p = a.1
    · simp [h]
    · simp only [h, decide_false, Bool.false_eq_true, if_false, false_or]; exact ih
theorem eset_seen (l : List Arr) (p : Int × Int) (h : p ∉ l.map (·.1)) (q : Int × Int) : eset (l.map seenE) (pairV p) (.sc (.bool true)) = (l ++ [(p, q)]).map seenE := by
  induction l with
  | nil => rfl
  | cons a l ih =>
    simp only [List.map_cons, List.mem_cons, not_or] at h
    simp only [List.map_cons, List.cons_append, seenE, eset, eqVal_pair]
    rw [if_neg (by simpa using h.1)]
    congr 1
    exact ih h.2

theorem meets1_seq (a b : Mach) (ha : Valid a) (hb : Valid b) (hab : a.ins = b.ins) : SeqIs prog 47 [.ia a.cells, .ia b.cells] ((meetsR a b).map yldC) := by
  refine SeqIs.of (nv := 3) (hid := [4, 5, 6, 7, 8, 9, 10, 11, 12, 17, 21, 37, 38, 39, 65, 84]) func47 rfl (by kernel_rfl) (by simp [ntmps47]) (by rw [results47]) fun lp J h0 hJ hy => ?_
  rw [ntmps47]
  refine EvY.seqL hJ (EvC.rg (by (simp only [go_sem]) <;> rfl) (by simp [descAgg, matchKinds, matchKind]) ?_)  -- R0
  refine EvY.seqL hJ (EvC.rg (by (simp only [go_sem]) <;> rfl) (by simp) ?_)  -- R1
  refine EvY.fz hJ 6 (by (simp only [go_sem]) <;> rfl) ?_
  refine EvY.seqL hJ (EvC.rg (by (simp only [go_sem]) <;> rfl) (by simp) ?_)  -- R2
  refine EvY.block ?_
  refine EvY.loopS hJ (σ := Nat × Nat × List Arr × List Yld) (fun g => ⟨[(0, .sc (yv lp)), (1, .ia a.cells), (2, .ia b.cells), (4, .mp 0), (5, .tl 1 g.2.2.1.length false), (6, .sc (.int .i64 g.2.1))], [], [(0, .map 111 (g.2.2.1.map seenE)), (1, .arr 4 (g.2.2.1.map arrC) true)], 2⟩) (fun g => g.2.2.2.length) (fun g => 5000 - g.2.1)
    (fun g => GoodL a b g.2.2.1 ∧ g.2.1 ≤ g.2.2.1.length ∧ meetsR a b = g.2.2.2 ++ outR a b g.1 g.2.1 g.2.2.1 ∧ g.1 + g.2.1 = 5000) [0, 1, 2, 4, 5, 6] 2 ?_ ?_
  · refine ⟨[(0, 0), (6, 1)], (5000, 0, arr0, []), rfl, (by (simp only [go_sem, arr0, seenE, pairV, arrC]) <;> rfl), ⟨.zero ha hb, Nat.zero_le _, rfl, rfl⟩, rfl⟩
  rintro ⟨n, at', l, pre⟩ ⟨hg, hat, hpre, hn⟩
  simp only at hg hat hpre hn
  have hlen := hg.len ha hb
  have hra := ha.rows
  have hrb := hb.rows
  have hia := ha.ins
  refine EvY.seq ?_
  refine EvY.seqL hJ (EvC.rg (by (simp only [go_sem]) <;> rfl) (by simp) ?_)  -- R3
  refine EvY.cond (by (simp only [go_sem]) <;> rfl) (fun hc => ?_) (fun hc => ?_)
  rotate_left
  · refine EvY.exit ⟨.inr rfl, .inl ?_⟩
    have hc : ¬ at' < l.length := by simpa using hc
    have : outR a b n at' l = [] := by
      cases n with
      | zero => rfl
      | succ n => simp only [outR, List.getElem?_eq_none (show l.length ≤ at' by omega)]
    rw [hpre, this]; simp
  have hc : at' < l.length := by simpa using hc
  have he : l[at']? = some l[at'] := List.getElem?_eq_getElem hc
  have hmem := List.getElem_mem hc
  generalize l[at'] = p at he hmem
  have hp := hg.rng p hmem
  obtain ⟨n, rfl⟩ : ∃ m, n = m + 1 := ⟨n - 1, by omega⟩
  refine EvY.skip ?_
  refine EvY.seq ?_
  refine EvY.block ?_
  refine EvY.seqL hJ ?_
  apply EvC.drd mixed  -- R5
  · (simp only [go_sem, he, arrC]) <;> rfl
  · simp [hc]
  · kernel_rfl
  refine EvY.seqL hJ (EvC.rg (by (simp only [go_sem, Mach.cells]) <;> rfl) (by simp) ?_)  -- R6
  refine EvY.block ?_
  refine EvY.loopS hJ (σ := Nat × Nat × List Arr × List Yld) (fun g => ⟨[(0, .sc (yv lp)), (1, .ia a.cells), (2, .ia b.cells), (4, .mp 0), (5, .tl 1 g.2.2.1.length false), (6, .sc (.int .i64 at')), (7, .sc (.int .i64 p.1.1)), (8, .sc (.int .i64 p.1.2)), (37, .sc (.int .i64 a.ins)), (38, .sc (.int .i64 g.2.1))], [],
      [(0, .map 111 (g.2.2.1.map seenE)), (1, .arr 4 (g.2.2.1.map arrC) true)], 2⟩) (fun g => g.2.2.2.length) (fun g => g.1)
    (fun g => GoodL a b g.2.2.1 ∧ at' < g.2.2.1.length ∧ meetsR a b = g.2.2.2 ++ ((inR a b at' p.1.1 p.1.2 g.1 g.2.1 g.2.2.1).1 ++ outR a b n (at' + 1) (inR a b at' p.1.1 p.1.2 g.1 g.2.1 g.2.2.1).2) ∧ g.1 + g.2.1 = a.ins.toNat) [0, 1, 2, 4, 5, 6, 7, 8, 37, 38] 2 ?_ ?_
  · refine ⟨[(0, 0), (1, 1)], (a.ins.toNat, 0, l, pre), rfl, (by (simp only [go_sem]) <;> rfl), ⟨hg, hc, ?_, rfl⟩, rfl⟩
    simp only
    rw [hpre, outR, he]
  clear hpre hg hlen hc he hmem hat
  rintro ⟨m, i, l, pre⟩ ⟨hg, hat, hpre, hm⟩
  simp only at hg hat hpre hm
  have hlen := hg.len ha hb
  refine EvY.seqL hJ (EvC.rg (by (simp only [go_sem]) <;> rfl) (by simp) ?_)  -- R7
  refine EvY.seq ?_
  refine EvY.cond (by (simp only [go_sem]) <;> rfl) (fun hc => ?_) (fun hc => ?_)
  rotate_left
  · refine EvY.exit ?_
    have hc : ¬ (i : Int) < a.ins := by simpa using hc
    have hm0 : m = 0 := by omega
    subst hm0
    refine EvY.lift hJ (EvC.rg (by (simp only [go_sem]) <;> rfl) (inI64_of (by omega) (by omega)) ?_)  -- R4
    refine ⟨[(0, 0), (1, 1)], (n, at' + 1, l, pre), rfl, (by (simp only [go_sem]) <;> rfl), ⟨hg, by simp only; omega, ?_, by simp only; omega⟩, rfl, by simp only; omega⟩
    simp only
    rw [hpre, inR]; rfl
  have hc : (i : Int) < a.ins := by simpa using hc
  obtain ⟨m, rfl⟩ : ∃ k, m = k + 1 := ⟨m - 1, by omega⟩
  obtain ⟨r1, e, q1, q2, q3, f1⟩ := stepR_get ha hp.1 hp.2.1 (a := (i : Int)) (by omega)
  obtain ⟨r2, f, q4, q5, q6, f2⟩ := stepR_get hb hp.2.2.1 hp.2.2.2 (a := (i : Int)) (by omega)
  rw [Int.toNat_natCast] at q2 q5
  have hnx := hg.next ha hb hat (s := p.1.1) (t := p.1.2) (i := i) ⟨hp.1, hp.2.1⟩ ⟨hp.2.2.1, hp.2.2.2⟩ (by omega) hab
  rw [inR, q3, q6] at hpre
  rw [q3, q6] at hnx
  refine EvY.skip ?_
  refine EvY.seq ?_
  refine EvY.block ?_
  refine EvY.seqL hJ (EvC.rg (by (simp only [go_sem]) <;> rfl) (by simp) ?_)  -- R8
  refine EvY.seqL hJ ?_
  apply EvC.drd mixed  -- R9
  · (simp only [go_sem, Mach.cells, q1, q4, rowC, q2, q5, edgeC]) <;> rfl
  · simp; omega
  · kernel_rfl
  refine EvY.seq ?_
  refine EvY.seq (EvY.region ?_)  -- R10
  have hlt : pre.length < ((meetsR a b).map yldC).length := by rw [hpre]; simp
  have hget : ((meetsR a b).map yldC)[pre.length] = yldC ⟨at', i, e, f, l⟩ := by
    simp only [hpre]; simp
  refine XRY.run hJ (by (simp only [go_sem]) <;> rfl) (by simp) ?_
  refine XRY.yield hlt hy rfl rfl (by (simp only [go_sem]) <;> rfl) (by (simp only [go_sem]) <;> rfl) (by rw [hget]; (simp only [go_sem, yldC, meetA]) <;> rfl) (by rw [hget]; simp only [go_sem, yldC, meetA]) fun b => ?_
  refine XRY.done hJ (by (simp only [go_sem]) <;> rfl) rfl ?_
  refine EvY.cond (by (simp only [go_sem]) <;> rfl) (fun hb => ?_) (fun hb => ?_)
  · have hb : b = false := by simpa using hb
    subst hb
    exact EvY.ret ⟨.inl rfl, .inr rfl⟩
  have hb : b = true := by simpa using hb
  subst hb
  refine EvY.skip ?_
  refine EvY.seqL hJ (EvC.rg (by (simp only [go_sem]) <;> rfl) (by simp) ?_)  -- R11
  have hI : inI64 (i + 1 : Int) = true := inI64_of (by omega) (by omega)
  have hel : elook (l.map seenE) (.agg [Value.int .i64 e.1, .int .i64 f.1].toArray) = some (.sc (.bool true)) ∨ elook (l.map seenE) (.agg [Value.int .i64 e.1, .int .i64 f.1].toArray) = none := by
    have := elook_seen l (e.1, f.1)
    by_cases hmm : (e.1, f.1) ∈ l.map (·.1)
    · exact .inl (this.trans (if_pos hmm))
    · exact .inr (this.trans (if_neg hmm))
  by_cases hx : e.1 = -1
  · have hl' : nextL at' i e f l = l := by unfold nextL; rw [if_neg (fun h => h.1 hx)]
    rw [hl'] at hpre hnx
    have hx := decide_eq_true hx
    rcases hel with hel | hel
    all_goals
      refine EvY.seqL hJ ?_
      apply EvC.trd  -- R12
      · (simp only [go_sem, hx, hel]) <;> rfl
      · simp
      refine EvY.cond_false (by (simp only [go_sem]) <;> rfl) ?_
      refine EvY.skip ?_
      refine EvY.lift hJ (EvC.rg (by (simp only [go_sem]) <;> rfl) hI ?_)  -- R15
      exact ⟨[(0, 0), (1, 1)], (m, i + 1, l, pre ++ [⟨at', i, e, f, l⟩]), rfl, (by (simp only [go_sem]) <;> rfl), ⟨hg, hnx.2, by rw [hpre]; simp, by simp only; omega⟩, by simp, by simp⟩
  by_cases hyy : f.1 = -1
  · have hl' : nextL at' i e f l = l := by unfold nextL; rw [if_neg (fun h => h.2.1 hyy)]
    rw [hl'] at hpre hnx
    have hx := decide_eq_false hx
    have hyy := decide_eq_true hyy
    rcases hel with hel | hel
    all_goals
      refine EvY.seqL hJ ?_
      apply EvC.trd  -- R12
      · (simp only [go_sem, hx, hyy, hel]) <;> rfl
      · simp
      refine EvY.cond_false (by (simp only [go_sem]) <;> rfl) ?_
      refine EvY.skip ?_
      refine EvY.lift hJ (EvC.rg (by (simp only [go_sem]) <;> rfl) hI ?_)  -- R15
      exact ⟨[(0, 0), (1, 1)], (m, i + 1, l, pre ++ [⟨at', i, e, f, l⟩]), rfl, (by (simp only [go_sem]) <;> rfl), ⟨hg, hnx.2, by rw [hpre]; simp, by simp only; omega⟩, by simp, by simp⟩
  by_cases hmm : (e.1, f.1) ∈ l.map (·.1)
  · have hl' : nextL at' i e f l = l := by unfold nextL; rw [if_neg (fun h => h.2.2 hmm)]
    have hel : elook (l.map seenE) (.agg [Value.int .i64 e.1, .int .i64 f.1].toArray) = some (.sc (.bool true)) := (elook_seen l (e.1, f.1)).trans (if_pos hmm)
    rw [hl'] at hpre hnx
    refine EvY.seqL hJ ?_
    apply EvC.trd  -- R12
    · (simp only [go_sem, hx, hyy, hel]) <;> rfl
    · simp [descAgg, matchKinds, matchKind]
    refine EvY.cond_false (by (simp only [go_sem]) <;> rfl) ?_
    refine EvY.skip ?_
    refine EvY.lift hJ (EvC.rg (by (simp only [go_sem]) <;> rfl) hI ?_)  -- R15
    exact ⟨[(0, 0), (1, 1)], (m, i + 1, l, pre ++ [⟨at', i, e, f, l⟩]), rfl, (by (simp only [go_sem]) <;> rfl), ⟨hg, hnx.2, by rw [hpre]; simp, by simp only; omega⟩, by simp, by simp⟩
  have hl' : nextL at' i e f l = l ++ [((e.1, f.1), (at' : Int), (i : Int))] := by unfold nextL; rw [if_pos ⟨hx, hyy, hmm⟩]
  have hel : elook (l.map seenE) (.agg [Value.int .i64 e.1, .int .i64 f.1].toArray) = none := (elook_seen l (e.1, f.1)).trans (if_neg hmm)
  have hes : eset (l.map seenE) (.agg [Value.int .i64 e.1, .int .i64 f.1].toArray) (.sc (.bool true)) = (l ++ [((e.1, f.1), (at' : Int), (i : Int))]).map seenE := eset_seen l (e.1, f.1) hmm _
  rw [hl'] at hpre hnx
  refine EvY.seqL hJ ?_
  apply EvC.trd  -- R12
  · (simp only [go_sem, hx, hyy, hel]) <;> rfl
  · simp [descAgg, matchKinds, matchKind]
  refine EvY.cond_true (by (simp only [go_sem]) <;> rfl) ?_
  refine EvY.seqL hJ (EvC.rg (by (simp only [go_sem, hes]) <;> rfl) (by simp [descAgg, matchKinds, matchKind]) ?_)  -- R13
  refine EvY.lift hJ (EvC.rg (by (simp only [go_sem]) <;> rfl) (by simp [room_eq, AV.norefs, AV.noref]; omega) ?_)  -- R14
  refine EvY.lift hJ (EvC.rg (by (simp only [go_sem]) <;> rfl) hI ?_)  -- R15
  exact ⟨[(0, 0), (1, 1)], (m, i + 1, l ++ [((e.1, f.1), (at' : Int), (i : Int))], pre ++ [⟨at', i, e, f, l⟩]), rfl, (by (simp only [go_sem, arrC]) <;> rfl), ⟨hnx.1, hnx.2, by rw [hpre]; simp, by simp only; omega⟩, by simp, by simp⟩
end Go.Avl
namespace Go.Avl
open Go Go.Proofs.Try
set_option maxRecDepth 10000
set_option linter.unusedSimpArgs false

theorem meets_is (a b : Mach) : PureIs prog 44 [.ag a.cells, .ag b.cells] (.fn 47 [.ia a.cells, .ia b.cells]) := by
  refine PureIs.of (nv := 5) (hid := []) func44 rfl (by kernel_rfl) (by simp [ntmps44]) fun _ => ?_
  rw [ntmps44, results44]
  refine EvC.seq (EvC.rg (by (simp only [go_sem, Mach.cells]) <;> rfl) (by simp) ?_)  -- R0
  refine EvC.frzB 0 (by (simp only [go_sem]) <;> rfl) ?_
  refine EvC.frzB 1 (by (simp only [go_sem]) <;> rfl) ?_
  refine EvC.seq (EvC.rg (by (simp only [go_sem]) <;> rfl) (by simp) ?_)  -- R1
  refine EvC.ret ⟨.inl rfl, _, (by (simp only [go_sem]) <;> rfl), ?_, rfl⟩
  simp only [go_sem, Mach.cells]

/-- What is known of each yield. -/
structure GoodY (a b : Mach) (z : Yld) : Prop where
  l : GoodL a b z.l
  at0 : 0 ≤ z.at'
  at1 : z.at' < z.l.length
  inp : 0 ≤ z.inp ∧ z.inp < a.ins
  xy : ∃ p, z.l[z.at'.toNat]? = some p ∧ z.x = stepR a p.1.1 z.inp ∧ z.y = stepR b p.1.2 z.inp
theorem nextL_get {at' i : Int} {x y : Int × Int} {l : List Arr} {j : Nat} {p : Arr} (h : l[j]? = some p) : (nextL at' i x y l)[j]? = some p := by
  unfold nextL
  split
  · rw [List.getElem?_append_left (List.getElem?_eq_some_iff.1 h).1]; exact h
  · exact h
theorem inR_good {a b : Mach} (ha : Valid a) (hb : Valid b) (hab : a.ins = b.ins) {at' : Nat} {p : Arr} : ∀ (n i : Nat) (l : List Arr), GoodL a b l → l[at']? = some p → n + i = a.ins.toNat →
    (∀ z ∈ (inR a b at' p.1.1 p.1.2 n i l).1, GoodY a b z) ∧ GoodL a b (inR a b at' p.1.1 p.1.2 n i l).2 ∧ (inR a b at' p.1.1 p.1.2 n i l).2[at']? = some p
  | 0, i, l, hg, hp, _ => ⟨fun _ h => (by cases h), hg, hp⟩
  | n + 1, i, l, hg, hp, hn => by
    have hia := ha.ins
    have hat := (List.getElem?_eq_some_iff.1 hp).1
    have hr := hg.rng p (List.mem_of_getElem? hp)
    have hnx := hg.next ha hb hat (s := p.1.1) (t := p.1.2) (i := i) ⟨hr.1, hr.2.1⟩ ⟨hr.2.2.1, hr.2.2.2⟩ (by omega) hab
    obtain ⟨h1, h2, h3⟩ := inR_good ha hb hab n (i + 1) _ hnx.1 (nextL_get hp) (by omega)
    simp only [inR]
    refine ⟨fun z hz => ?_, h2, h3⟩
    rcases List.mem_cons.1 hz with rfl | hz
    · exact ⟨hg, by simp, by simp only; omega, by simp only; omega, p, by simpa using hp, rfl, rfl⟩
    · exact h1 z hz
theorem inR_len {a b : Mach} {at' s t : Int} : ∀ (n i : Nat) (l : List Arr), (inR a b at' s t n i l).1.length = n
  | 0, _, _ => rfl
  | n + 1, i, l => by simp only [inR, List.length_cons]; rw [inR_len n]
theorem outR_good {a b : Mach} (ha : Valid a) (hb : Valid b) (hab : a.ins = b.ins) : ∀ (n at' : Nat) (l : List Arr), GoodL a b l → (∀ z ∈ outR a b n at' l, GoodY a b z) ∧ (outR a b n at' l).length ≤ n * 16
  | 0, _, _, _ => ⟨fun _ h => (by cases h), by simp [outR]⟩
  | n + 1, at', l, hg => by
    have hia := ha.ins
    simp only [outR]
    cases hp : l[at']? with
    | none => exact ⟨fun _ h => (by cases h), by simp⟩
    | some p =>
      obtain ⟨h1, h2, _⟩ := inR_good ha hb hab a.ins.toNat 0 l hg hp rfl
      obtain ⟨h3, h4⟩ := outR_good ha hb hab n (at' + 1) _ h2
      refine ⟨fun z hz => ?_, ?_⟩
      · rcases List.mem_append.1 hz with hz | hz
        · exact h1 z hz
        · exact h3 z hz
      · simp only [List.length_append, inR_len]; omega
theorem meetsR_good {a b : Mach} (ha : Valid a) (hb : Valid b) (hab : a.ins = b.ins) : (∀ z ∈ meetsR a b, GoodY a b z) ∧ (meetsR a b).length ≤ 80000 := outR_good ha hb hab 5000 0 _ (.zero ha hb)

def pairsR : List Yld → List (Int × Int) → List (Int × Int)
  | [], ps => ps
  | z :: zs, ps => pairsR zs (if z.x.1 ≠ -1 ∧ (z.x.1, z.y.1) ∉ ps then ps ++ [(z.x.1, z.y.1)] else ps)
def diffA (zs : List Yld) : AV := match zs.find? (fun z => decide (z.x.2 ≠ z.y.2)) with
  | some z => .tu [.sl false ((wordR z.l z.l.length z.at' [z.inp]).map intC) .full, .sl true [] .zer]
  | none => .tu [.sl true [] .zer, .sl false ((pairsR zs [(0, 0)]).map edgeC) .unk]

theorem diffA_noref (zs : List Yld) : (diffA zs).noref = true := by unfold diffA; split <;> rfl
theorem find_at {α : Type} {p : α → Bool} : ∀ {l : List α} {k : Nat} {z : α}, ((l.take k).all fun x => !p x) = true → l.drop k = z :: l.drop (k + 1) → p z = true → l.find? p = some z
  | [], k, z, _, h, _ => by simp at h
  | x :: l, 0, z, _, h, hz => by
    simp only [List.drop_zero, List.cons.injEq] at h
    rw [List.find?_cons, h.1, hz]
  | x :: l, k + 1, z, h1, h, hz => by
    simp only [List.take_succ_cons, List.all_cons, Bool.and_eq_true, Bool.not_eq_true'] at h1
    rw [List.find?_cons, h1.1]
    exact find_at h1.2 (by simpa using h) hz
theorem find_no {α : Type} {p : α → Bool} {l : List α} (h : (l.all fun x => !p x) = true) : l.find? p = none := by
  rw [List.find?_eq_none]
  intro x hx
  rw [List.all_eq_true] at h
  simpa using h x hx

theorem differ_is (a b : Mach) (ha : Valid a) (hb : Valid b) (hab : a.ins = b.ins) : PureIs prog 40 [.ag a.cells, .ag b.cells] (diffA (meetsR a b)) := by
  refine PureIs.of (nv := 10) (hid := [11, 14, 15, 16, 23, 47]) func40 rfl (by kernel_rfl) (by simp [ntmps40]) fun _ => ?_
  rw [ntmps40, results40]
  refine EvC.seq (EvC.rg (by (simp only [go_sem, Mach.cells]) <;> rfl) (by simp) ?_)  -- R0
  refine EvC.frzB 0 (by (simp only [go_sem]) <;> rfl) ?_
  refine EvC.frzB 1 (by (simp only [go_sem]) <;> rfl) ?_
  refine EvC.seq (EvC.rg (by (simp only [go_sem]) <;> rfl) (by simp) ?_)  -- R1
  refine EvC.fz 5 (by (simp only [go_sem]) <;> rfl) ?_
  refine EvC.seq ?_
  apply EvC.seq  -- R2
  apply EvC.tr
  · apply Tr.run
    · (simp only [go_sem]) <;> rfl
    · simp
    apply Tr.cons
    · exact .call rfl rfl (by (simp only [go_sem]) <;> rfl) (by (simp only [go_sem]) <;> rfl) (by (simp only [go_sem]) <;> rfl) (by (simp only [go_sem]) <;> rfl) (by (simp only [go_sem]) <;> rfl) (by simpa [Mach.cells] using meets_is a b)
    apply Tr.done
    · (simp only [go_sem]) <;> rfl
    · simp
  refine EvC.block ?_  -- 0
  refine EvC.gcTo ⟨[(4, .rf 0 0), (5, .rf 1 0), (6, .rf 2 0), (14, .fn 47 [.ia a.cells, .ia b.cells])], [], [(0, .cells [.sl true [] .zer]), (1, .cells [.sl true [] .zer]), (2, .cells [.tl 3 1 false]), (3, .arr 2 [[.sc (.int .i64 0), .sc (.int .i64 0)]] true)], 4⟩ [4, 5, 6, 14] [(2, 0), (3, 1), (6, 2), (5, 3)] (by rfl) (by (simp only [go_sem]) <;> rfl) ?_
  obtain ⟨gY, gl⟩ := meetsR_good ha hb hab
  refine EvC.range (σ := List (Int × Int)) (gf := 47) (caps := [.ia a.cells, .ia b.cells]) (xs := (meetsR a b).map yldC) rfl (fun _ => rfl) (by (simp only [go_sem]) <;> rfl) rfl (meets1_seq a b ha hb hab) ?_ (by simp) (Nat.zero_le _)
    (fun _ ps => [(0, .cells [.sl true [] .zer]), (1, .cells [.sl true [] .zer]), (2, .cells [.tl 3 ps.length false]), (3, .arr 2 (ps.map edgeC) true)])
    (fun k ps => ps.length ≤ 1 + k ∧ (((meetsR a b).take k).all fun z => decide (z.x.2 = z.y.2)) = true ∧ pairsR (meetsR a b) [(0, 0)] = pairsR ((meetsR a b).drop k) ps) ⟨[(0, 0)], rfl, by simp, rfl, rfl⟩ ?_ ?_
  · intro x hx
    obtain ⟨z, _, rfl⟩ := List.mem_map.1 hx
    rfl
  · rintro k ps lp hk ⟨h1, h2, h3⟩
    have hk' : k < (meetsR a b).length := by simpa using hk
    have hz : ((meetsR a b).map yldC)[k] = yldC (meetsR a b)[k] := by simp
    have gz := gY _ (List.getElem_mem hk')
    have hd : (meetsR a b).drop k = (meetsR a b)[k] :: (meetsR a b).drop (k + 1) := List.drop_eq_getElem_cons hk'
    rw [hz]
    generalize (meetsR a b)[k] = z at gz hd
    refine EvC.seq (EvC.rg (by (simp only [go_sem, yldC, meetA]) <;> rfl) (by simp) ?_)  -- R3
    refine EvC.rg (by (simp only [go_sem]) <;> rfl) (by simp) ⟨rfl, ?_⟩  -- R4
    refine EvC.block ?_
    refine EvC.seq ?_
    refine EvC.seq (EvC.rg (by (simp only [go_sem]) <;> rfl) (by simp) ?_)  -- R5
    refine EvC.cond (by (simp only [go_sem]) <;> rfl) (fun hc => ?_) (fun hc => ?_)
    · have hc : ¬ z.x.2 = z.y.2 := by simpa using hc
      have hlen := gz.l.len ha hb
      apply EvC.seq  -- R6
      apply EvC.tr
      · apply Tr.run
        · (simp only [go_sem]) <;> rfl
        · simp
        apply Tr.cons
        · exact .call rfl rfl (by (simp only [go_sem]) <;> rfl) (by (simp only [go_sem]) <;> rfl) (by (simp only [go_sem]) <;> rfl) (by (simp only [go_sem]) <;> rfl) (by (simp only [go_sem]) <;> rfl) (by simpa [intC] using word_is false z.l .unk gz.l.wf z.at' gz.at0 gz.at1 [z.inp] .full (by simp; omega))
        apply Tr.done
        · (simp only [go_sem]) <;> rfl
        · simp
      refine EvC.ret ⟨.inl rfl, _, (by (simp only [go_sem]) <;> rfl), ?_, diffA_noref _⟩
      simp only [go_sem]
      rw [diffA, find_at (k := k) (z := z) (by simpa using h2) hd (by simpa using hc)]
    have hc : z.x.2 = z.y.2 := by simpa using hc
    have h2' : (((meetsR a b).take (k + 1)).all fun z => decide (z.x.2 = z.y.2)) = true := by
      have : (meetsR a b).take (k + 1) = (meetsR a b).take k ++ [z] := by
        have h := List.getElem?_drop (xs := meetsR a b) (i := k) (j := 0)
        rw [hd] at h
        rw [List.take_add_one]
        simp only [Nat.add_zero, List.getElem?_cons_zero] at h
        rw [← h]; rfl
      rw [this, List.all_append, h2]
      simp [hc]
    rw [hd] at h3
    rw [pairsR] at h3
    refine EvC.skip ?_
    refine EvC.seq (EvC.rg (by (simp only [go_sem]) <;> rfl) (by simp) ?_)  -- R7
    by_cases hx : z.x.1 = -1
    · have hx' := decide_eq_true hx
      rw [if_neg (fun h => h.1 hx)] at h3
      apply EvC.seq  -- R8
      apply EvC.tr
      · apply Tr.run
        · (simp only [go_sem, hx']) <;> rfl
        · simp
        apply Tr.cons
        · exact .skipv (.sc (.bool false)) rfl rfl (by (simp only [go_sem]) <;> rfl) (by (simp only [go_sem]) <;> rfl)
        apply Tr.done
        · (simp only [go_sem]) <;> rfl
        · simp
      refine EvC.cond_false (by (simp only [go_sem]) <;> rfl) ?_
      refine EvC.skip ?_
      exact ⟨[(0, 0), (1, 1), (2, 2), (3, 3)], ps, rfl, (by (simp only [go_sem]) <;> rfl), by omega, h2', h3⟩
    have hx' := decide_eq_false hx
    have hpl : ps.length < 1000000 := by omega
    apply EvC.seq  -- R8
    apply EvC.tr
    · apply Tr.run
      · (simp only [go_sem, hx']) <;> rfl
      · simp
      apply Tr.cons
      · exact .callG rfl rfl (by (simp only [go_sem]) <;> rfl) rfl (by (simp only [go_sem]) <;> rfl) (by (simp only [go_sem]) <;> rfl) (by (simp only [go_sem]) <;> rfl) (by (simp only [go_sem]) <;> rfl) (by (simp only [go_sem]) <;> rfl) (by simpa [edgeA] using contains46_is false ps .unk (z.x.1, z.y.1) hpl)
      apply Tr.done
      · (simp only [go_sem]) <;> rfl
      · simp
    refine EvC.cond (by (simp only [go_sem]) <;> rfl) (fun hm => ?_) (fun hm => ?_)
    · have hm : ¬ (z.x.1, z.y.1) ∈ ps := by simpa using hm
      rw [if_pos ⟨hx, hm⟩] at h3
      refine EvC.rg (by (simp only [go_sem]) <;> rfl) (by simp [room_eq, AV.norefs, AV.noref]; omega) ?_  -- R9
      exact ⟨[(0, 0), (1, 1), (2, 2), (3, 3)], ps ++ [(z.x.1, z.y.1)], rfl, (by (simp only [go_sem, edgeC]) <;> rfl), by simp; omega, h2', h3⟩
    · have hm : (z.x.1, z.y.1) ∈ ps := by simpa using hm
      rw [if_neg (fun h => h.2 hm)] at h3
      refine EvC.skip ?_
      exact ⟨[(0, 0), (1, 1), (2, 2), (3, 3)], ps, rfl, (by (simp only [go_sem]) <;> rfl), by omega, h2', h3⟩
  · rintro ps ⟨h1, h2, h3⟩
    rw [List.length_map] at h2 h3
    rw [List.take_length] at h2
    rw [List.drop_length, pairsR] at h3
    refine EvC.frzD 3 (by (simp only [go_sem]) <;> rfl) ?_
    apply EvC.seq  -- R10
    apply EvC.drd mixed
    · (simp only [go_sem]) <;> rfl
    · simp
    · kernel_rfl
    refine EvC.ret ⟨.inl rfl, _, (by (simp only [go_sem]) <;> rfl), ?_, diffA_noref _⟩
    simp only [go_sem]
    rw [diffA, find_no (by simpa using h2), h3]
end Go.Avl
namespace Go.Avl
open Go Go.Proofs.Try
set_option maxRecDepth 10000
set_option linter.unusedSimpArgs false

def diffO (a b : Mach) : Option Yld := (meetsR a b).find? (fun z => decide (z.x.2 ≠ z.y.2))
/-- The least word on which two machines differ; empty if there is none. -/
def diffW (a b : Mach) : List Int := match diffO a b with
  | some z => wordR z.l z.l.length z.at' [z.inp]
  | none => []
theorem diffA_eq (a b : Mach) : diffA (meetsR a b) = .tu [.sl (diffO a b).isNone ((diffW a b).map intC) (if (diffO a b).isNone then .zer else .full), if (diffO a b).isNone then .sl false ((pairsR (meetsR a b) [(0, 0)]).map edgeC) .unk else .sl true [] .zer] := by
  unfold diffA diffW diffO
  split
  · rename_i z hz; rw [hz]; rfl
  · rename_i hz; rw [hz]; rfl
theorem wordR_len (l : List Arr) : ∀ (n : Nat) (t : Int) (acc : List Int), acc.length ≤ (wordR l n t acc).length
  | 0, _, _ => Nat.le_refl _
  | n + 1, t, acc => by
    simp only [wordR]
    split
    · split
      · exact Nat.le_refl _
      · exact Nat.le_trans (by simp) (wordR_len l n _ _)
    · exact Nat.le_refl _
theorem diffW_pos (a b : Mach) : decide (0 < ((diffW a b).length : Int)) = (diffO a b).isSome := by
  unfold diffW
  cases h : diffO a b with
  | none => rfl
  | some z =>
    have := wordR_len z.l z.l.length z.at' [z.inp]
    simp only [List.length_cons, List.length_nil] at this
    simp only [Option.isSome_some, decide_eq_true_eq]
    omega

def differA (a b : Mach) : AV := if bothR a b = 0 then .tu [.sl (diffO a b).isNone ((diffW a b).map intC) (if (diffO a b).isNone then .zer else .full), .sc (.bool (diffO a b).isSome), .sc (.int .i64 0)]
  else .tu [.sl true [] .unk, .sc (.bool false), .sc (.int .i64 (bothR a b))]
theorem both_valid {a b : Mach} (h : bothR a b = 0) : Valid a ∧ Valid b ∧ a.ins = b.ins := by
  unfold bothR at h
  split at h
  · contradiction
  · rename_i h1
    split at h
    · contradiction
    · rename_i h2
      split at h
      · cases h
      · rename_i h3
        exact ⟨.of (by simpa using h1), .of (by simpa using h2), by simpa using h3⟩

theorem equals_differ_is (a b : Mach) (ha : ∀ r ∈ a.rows, r.2.length < 1000000) (hb : ∀ r ∈ b.rows, r.2.length < 1000000) : PureIs prog 35 [.ag a.cells, .ag b.cells] (differA a b) := by
  refine PureIs.of (nv := 9) (hid := [14]) func35 rfl (by kernel_rfl) (by simp [ntmps35]) fun _ => ?_
  rw [ntmps35, results35]
  refine EvC.seq (EvC.rg (by (simp only [go_sem, Mach.cells]) <;> rfl) (by simp) ?_)  -- R0
  refine EvC.seq ?_
  apply EvC.seq  -- R1
  apply EvC.tr
  · apply Tr.run
    · (simp only [go_sem]) <;> rfl
    · simp
    apply Tr.cons
    · exact .call rfl rfl (by (simp only [go_sem]) <;> rfl) (by (simp only [go_sem]) <;> rfl) (by (simp only [go_sem]) <;> rfl) (by (simp only [go_sem]) <;> rfl) (by (simp only [go_sem]) <;> rfl) (both_is a b ha hb)
    apply Tr.done
    · (simp only [go_sem]) <;> rfl
    · simp
  refine EvC.seq (EvC.rg (by (simp only [go_sem]) <;> rfl) (by simp) ?_)  -- R2
  refine EvC.cond (by (simp only [go_sem]) <;> rfl) (fun hc => ?_) (fun hc => ?_)
  · have hc : bothR a b ≠ 0 := by simpa using hc
    refine EvC.seq (EvC.rg (by (simp only [go_sem]) <;> rfl) (by simp) ?_)  -- R3
    refine EvC.ret ⟨.inl rfl, _, (by (simp only [go_sem]) <;> rfl), ?_, by unfold differA; split <;> rfl⟩
    simp only [go_sem]
    rw [differA, if_neg hc]
  have hc : bothR a b = 0 := by simpa using hc
  obtain ⟨va, vb, hab⟩ := both_valid hc
  have hd := differ_is a b va vb hab
  rw [diffA_eq] at hd
  refine EvC.skip ?_
  apply EvC.seq  -- R4
  apply EvC.tr
  · apply Tr.run
    · (simp only [go_sem]) <;> rfl
    · simp
    apply Tr.cons
    · exact .call rfl rfl (by (simp only [go_sem]) <;> rfl) (by (simp only [go_sem]) <;> rfl) (by (simp only [go_sem]) <;> rfl) (by (simp only [go_sem]) <;> rfl) (by (simp only [go_sem]) <;> rfl) hd
    apply Tr.done
    · (simp only [go_sem]) <;> rfl
    · simp
  refine EvC.seq (EvC.rg (by (simp only [go_sem]) <;> rfl) (by simp) ?_)  -- R5
  refine EvC.ret ⟨.inl rfl, _, (by (simp only [go_sem]) <;> rfl), ?_, by unfold differA; split <;> rfl⟩
  simp only [go_sem]
  have := diffW_pos a b
  rw [differA, if_pos hc, ← this]

def equalR (a b : Mach) : Bool × Int := (decide (bothR a b = 0) && (diffO a b).isNone, bothR a b)
theorem equals_equal_is (a b : Mach) (ha : ∀ r ∈ a.rows, r.2.length < 1000000) (hb : ∀ r ∈ b.rows, r.2.length < 1000000) : PureIs prog 32 [.ag a.cells, .ag b.cells] (.tu [.sc (.bool (equalR a b).1), .sc (.int .i64 (equalR a b).2)]) := by
  refine PureIs.of (nv := 6) (hid := [7, 8]) func32 rfl (by kernel_rfl) (by simp [ntmps32]) fun _ => ?_
  rw [ntmps32, results32]
  have hd := equals_differ_is a b ha hb
  refine EvC.seq (EvC.rg (by (simp only [go_sem, Mach.cells]) <;> rfl) (by simp) ?_)  -- R0
  by_cases h : bothR a b = 0
  · rw [differA, if_pos h] at hd
    apply EvC.seq  -- R1
    apply EvC.tr
    · apply Tr.run
      · (simp only [go_sem]) <;> rfl
      · simp
      apply Tr.cons
      · exact .call rfl rfl (by (simp only [go_sem]) <;> rfl) (by (simp only [go_sem]) <;> rfl) (by (simp only [go_sem]) <;> rfl) (by (simp only [go_sem]) <;> rfl) (by (simp only [go_sem]) <;> rfl) hd
      apply Tr.done
      · (simp only [go_sem]) <;> rfl
      · simp
    apply EvC.seq  -- R2
    apply EvC.trd
    · (simp only [go_sem]) <;> rfl
    · simp
    refine EvC.ret ⟨.inl rfl, _, (by (simp only [go_sem]) <;> rfl), ?_, rfl⟩
    simp only [go_sem]
    unfold equalR
    cases diffO a b <;> simp [h]
  · rw [differA, if_neg h] at hd
    apply EvC.seq  -- R1
    apply EvC.tr
    · apply Tr.run
      · (simp only [go_sem]) <;> rfl
      · simp
      apply Tr.cons
      · exact .call rfl rfl (by (simp only [go_sem]) <;> rfl) (by (simp only [go_sem]) <;> rfl) (by (simp only [go_sem]) <;> rfl) (by (simp only [go_sem]) <;> rfl) (by (simp only [go_sem]) <;> rfl) hd
      apply Tr.done
      · (simp only [go_sem]) <;> rfl
      · simp
    apply EvC.seq  -- R2
    apply EvC.trd
    · (simp only [go_sem]) <;> rfl
    · simp
    refine EvC.ret ⟨.inl rfl, _, (by (simp only [go_sem]) <;> rfl), ?_, rfl⟩
    simp only [go_sem]
    unfold equalR
    simp [h]
end Go.Avl
namespace Go.Avl
open Go Go.Proofs.Try
set_option maxRecDepth 10000
set_option linter.unusedSimpArgs false

/-! ### The unfolded machine -/
abbrev Cfg := Int × Int
def timAt (x : Timed) (s : Int) : Tim := (x.ts[s.toNat]?).getD (0, 0, 0)
def cfgStep (x : Timed) (c : Cfg) (i : Int) : Cfg × Int :=
  if i < x.m.ins then (((stepR x.m c.1 i).1, 0), (stepR x.m c.1 i).2) else tickR x.m.outs (timAt x c.1) c
/-- Where a configuration stands in a list, or would stand. -/
def idxC (c : Cfg) : List Cfg → Nat
  | [] => 0
  | d :: l => if d = c then 0 else idxC c l + 1
theorem idxC_le (c : Cfg) : ∀ l, idxC c l ≤ l.length
  | [] => Nat.le_refl _
  | d :: l => by
    have := idxC_le c l
    simp only [idxC, List.length_cons]; split <;> omega
theorem idxC_mem {c : Cfg} : ∀ {l : List Cfg}, idxC c l < l.length ↔ c ∈ l
  | [] => by simp [idxC]
  | d :: l => by
    have := idxC_mem (c := c) (l := l)
    simp only [idxC, List.length_cons, List.mem_cons]
    by_cases h : d = c
    · simp [h]
    · rw [if_neg h]
      constructor
      · intro h1; exact .inr (this.1 (by omega))
      · rintro (rfl | h1)
        · exact absurd rfl h
        · have := this.2 h1; omega
theorem idxC_get {c : Cfg} : ∀ {l : List Cfg}, c ∈ l → l[idxC c l]? = some c
  | d :: l, h => by
    simp only [idxC]
    by_cases hd : d = c
    · simp [hd]
    · rw [if_neg hd]
      rcases List.mem_cons.1 h with rfl | h
      · exact absurd rfl hd
      · simpa using idxC_get h
def addC (c : Cfg) (l : List Cfg) : List Cfg := if c ∈ l then l else l ++ [c]
theorem addC_len (c : Cfg) (l : List Cfg) : l.length ≤ (addC c l).length := by unfold addC; split <;> simp
theorem addC_get {c : Cfg} {l : List Cfg} {j : Nat} {d : Cfg} (h : l[j]? = some d) : (addC c l)[j]? = some d := by
  unfold addC
  split
  · exact h
  · rw [List.getElem?_append_left (List.getElem?_eq_some_iff.1 h).1]; exact h
/-- One entry of a row, and the list of configurations behind it. -/
def entU (x : Timed) (c : Cfg) (i : Int) (l : List Cfg) : (Int × Int) × List Cfg :=
  if (cfgStep x c i).1.1 < 0 then ((-1, (cfgStep x c i).2), l) else (((idxC (cfgStep x c i).1 l : Nat), (cfgStep x c i).2), addC (cfgStep x c i).1 l)
def rowU (x : Timed) (c : Cfg) : Nat → Nat → List Cfg → List (Int × Int) × List Cfg
  | 0, _, l => ([], l)
  | n + 1, i, l => ((entU x c i l).1 :: (rowU x c n (i + 1) (entU x c i l).2).1, (rowU x c n (i + 1) (entU x c i l).2).2)
def unfR (x : Timed) : Nat → Nat → List Cfg → List (List (Int × Int)) × List Cfg
  | 0, _, l => ([], l)
  | f + 1, n, l => match l[n]? with
    | none => ([], l)
    | some c => if 64 < l.length then ([], l) else
      ((rowU x c (x.m.ins.toNat + 1) 0 l).1 :: (unfR x f (n + 1) (rowU x c (x.m.ins.toNat + 1) 0 l).2).1, (unfR x f (n + 1) (rowU x c (x.m.ins.toNat + 1) 0 l).2).2)
def unfAll (x : Timed) : List (List (Int × Int)) × List Cfg := unfR x 100 0 [(0, 0)]
def unfMach (x : Timed) : Mach := ⟨x.m.ins + 1, x.m.outs + 1, false, (unfAll x).1.map fun r => (false, r)⟩

theorem entU_len (x : Timed) (c : Cfg) (i : Int) (l : List Cfg) : l.length ≤ (entU x c i l).2.length ∧ (entU x c i l).2.length ≤ l.length + 1 := by
  unfold entU
  split
  · exact ⟨Nat.le_refl _, Nat.le_succ _⟩
  · refine ⟨addC_len _ _, ?_⟩
    unfold addC; split <;> simp
theorem rowU_len (x : Timed) (c : Cfg) : ∀ (n i : Nat) (l : List Cfg), l.length ≤ (rowU x c n i l).2.length ∧ (rowU x c n i l).2.length ≤ l.length + n ∧ (rowU x c n i l).1.length = n
  | 0, _, _ => ⟨Nat.le_refl _, Nat.le_refl _, rfl⟩
  | n + 1, i, l => by
    have h1 := entU_len x c i l
    have h2 := rowU_len x c n (i + 1) (entU x c i l).2
    simp only [rowU, List.length_cons]; omega
theorem unfR_len (x : Timed) : ∀ (f n : Nat) (l : List Cfg), l.length ≤ (unfR x f n l).2.length
  | 0, _, _ => Nat.le_refl _
  | f + 1, n, l => by
    simp only [unfR]
    split
    · exact Nat.le_refl _
    · split
      · exact Nat.le_refl _
      · have h1 := rowU_len x
        exact Nat.le_trans (h1 _ _ _ _).1 (unfR_len x f _ _)

/-- Valid timed machines. -/
structure ValidT (x : Timed) : Prop where
  m : Valid x.m
  len : x.ts.length = x.m.rows.length
  tim : ∀ t ∈ x.ts, timOk x.m t = true
theorem ValidT.of {x : Timed} (h : checkT x = 0) : ValidT x := by
  unfold checkT at h
  split at h
  · contradiction
  · rename_i h1
    split at h
    · cases h
    · rename_i h2
      split at h
      · rename_i h3
        rw [List.all_eq_true] at h3
        exact ⟨.of (by simpa using h1), by omega, h3⟩
      · cases h
structure GoodC (x : Timed) (c : Cfg) : Prop where
  st : 0 ≤ c.1 ∧ c.1 < x.m.rows.length
  ck : 0 ≤ c.2 ∧ (c.2 = 0 ∨ c.2 < (timAt x c.1).1)
theorem timAt_get {x : Timed} (hv : ValidT x) {s : Int} (h0 : 0 ≤ s) (hs : s < x.m.rows.length) : x.ts[s.toNat]? = some (timAt x s) ∧ timOk x.m (timAt x s) = true := by
  have : s.toNat < x.ts.length := by rw [hv.len]; omega
  have h1 : x.ts[s.toNat]? = some x.ts[s.toNat] := List.getElem?_eq_getElem this
  unfold timAt
  rw [h1]
  exact ⟨rfl, hv.tim _ (List.getElem_mem _)⟩
theorem timOk_cases {m : Mach} {t : Tim} (h : timOk m t = true) : (t.1 = 0 ∧ t.2.1 = 0 ∧ t.2.2 = 0) ∨ (1 ≤ t.1 ∧ t.1 ≤ 256 ∧ 0 ≤ t.2.1 ∧ t.2.1 < m.rows.length ∧ 0 ≤ t.2.2 ∧ t.2.2 < m.outs) := by
  unfold timOk timZ timBad at h
  simp at h
  omega
theorem GoodC.clock {x : Timed} (hv : ValidT x) {c : Cfg} (h : GoodC x c) : c.2 ≤ 256 := by
  have h1 := timOk_cases (timAt_get hv h.st.1 h.st.2).2
  have h2 := h.ck
  omega
theorem GoodC.zero {x : Timed} (hv : ValidT x) : GoodC x (0, 0) := by
  have := hv.m.rows
  exact ⟨by simp only; omega, by simp⟩
/-- A step of a good configuration: the next one is good, or there is none and the output is None, too. -/
theorem cfgStep_good {x : Timed} (hv : ValidT x) {c : Cfg} (h : GoodC x c) {i : Int} (hi : 0 ≤ i) : (GoodC x (cfgStep x c i).1 ∧ 0 ≤ (cfgStep x c i).2 ∧ (cfgStep x c i).2 ≤ x.m.outs) ∨ ((cfgStep x c i).1.1 = -1 ∧ (cfgStep x c i).2 = -1 ∧ i < x.m.ins) := by
  have ho := hv.m.outs
  unfold cfgStep
  split
  · rename_i hlt
    obtain ⟨_, e, _, _, h3, h4⟩ := stepR_get hv.m h.st.1 h.st.2 ⟨hi, hlt⟩
    rw [h3]
    unfold fitsR at h4
    simp at h4
    rcases h4 with h4 | h4
    · exact .inr ⟨h4.1, h4.2, hlt⟩
    · exact .inl ⟨⟨by simp only; omega, by simp⟩, by simp only; omega, by simp only; omega⟩
  · left
    have ht := timOk_cases (timAt_get hv h.st.1 h.st.2).2
    have hc := h.ck
    unfold tickR
    split
    · exact ⟨h, by simp only; omega, by simp only; omega⟩
    · split
      · exact ⟨⟨by simp only; omega, by simp⟩, by simp only; omega, by simp only; omega⟩
      · refine ⟨⟨h.st, ?_⟩, by simp only; omega, by simp only; omega⟩
        simp only; omega
def GoodCs (x : Timed) (l : List Cfg) : Prop := ∀ c ∈ l, GoodC x c
theorem GoodCs.ent {x : Timed} (hv : ValidT x) {l : List Cfg} (h : GoodCs x l) {c : Cfg} (hc : GoodC x c) {i : Int} (hi : 0 ≤ i) : GoodCs x (entU x c i l).2 := by
  unfold entU
  split
  · exact h
  · rename_i hn
    rcases cfgStep_good hv hc hi with hg | hg
    · unfold addC
      split
      · exact h
      · intro d hd
        rcases List.mem_append.1 hd with hd | hd
        · exact h d hd
        · simp only [List.mem_singleton] at hd; subst hd; exact hg.1
    · omega
theorem GoodCs.row {x : Timed} (hv : ValidT x) {c : Cfg} (hc : GoodC x c) : ∀ (n i : Nat) (l : List Cfg), GoodCs x l → GoodCs x (rowU x c n i l).2
  | 0, _, _, h => h
  | n + 1, i, l, h => by
    simp only [rowU]
    exact GoodCs.row hv hc n (i + 1) _ (h.ent hv hc (by omega))
end Go.Avl
namespace Go.Avl
open Go Go.Proofs.Try
set_option maxRecDepth 10000
set_option linter.unusedSimpArgs false

@[go_sem] theorem key75 : isKey prog 75 = keyTest true [.int .i64, .int .i64] := isKey_of (by kernel_rfl) (by kernel_rfl)
def ents : Nat → List Cfg → List (Value × AV)
  | _, [] => []
  | i, c :: l => (pairV c, .sc (.int .i64 i)) :: ents (i + 1) l
@[go_sem] theorem norefs_ents : ∀ (l : List Cfg) (i : Nat), ((ents i l).all fun p => p.2.noref) = true
  | [], _ => rfl
  | c :: l, i => by simp only [ents, List.all_cons, norefs_ents l, AV.noref, Bool.and_self]
theorem elook_ents (c : Cfg) : ∀ (l : List Cfg) (i : Nat), elook (ents i l) (pairV c) = if c ∈ l then some (.sc (.int .i64 (i + idxC c l : Nat))) else none
  | [], _ => rfl
  | d :: l, i => by
    simp only [ents, elook, eqVal_pair, List.mem_cons, idxC]
    by_cases h : c = d
    · subst h; simp
    · rw [if_neg (by simpa using h), elook_ents c l (i + 1), if_neg (fun e : d = c => h e.symm)]
      simp only [h, false_or]
      by_cases hc : c ∈ l
      · rw [if_pos hc, if_pos hc, show i + 1 + idxC c l = i + (idxC c l + 1) by omega]
      · rw [if_neg hc, if_neg hc]
theorem eset_ents (c : Cfg) : ∀ (l : List Cfg) (i : Nat), c ∉ l → eset (ents i l) (pairV c) (.sc (.int .i64 (i + l.length : Nat))) = ents i (l ++ [c])
  | [], _, _ => rfl
  | d :: l, i, h => by
    simp only [List.mem_cons, not_or] at h
    simp only [ents, eset, eqVal_pair, List.cons_append]
    rw [if_neg (by simpa using h.1)]
    congr 1
    have := eset_ents c l (i + 1) h.2
    rw [show i + 1 + l.length = i + (d :: l).length by simp; omega] at this
    exact this

def rowF (r : List (Int × Int)) : List AV := rowC (false, r)
@[go_sem] theorem norefs_rowF (l : List (List (Int × Int))) : (l.map rowF).all AV.norefs = true := by simp [List.all_eq_true, rowF, rowC, AV.norefs, AV.noref]
def zeroM : AV := .ag [.sc (.int .i64 0), .sc (.int .i64 0), .sl true [] .zer]
def unfoldA (x : Timed) : AV :=
  if checkT x ≠ 0 then .tu [zeroM, .sc (.int .i64 (checkT x))]
  else if x.m.ins = 16 ∨ x.m.outs = 16 then .tu [zeroM, .sc (.int .i64 3)]
  else if (unfAll x).2.length ≤ 64 then .tu [.ag [.sc (.int .i64 (x.m.ins + 1)), .sc (.int .i64 (x.m.outs + 1)), .sl false ((unfAll x).1.map rowF) .full], .sc (.int .i64 0)]
  else .tu [zeroM, .sc (.int .i64 3)]
theorem unfoldA_noref (x : Timed) : (unfoldA x).noref = true := by unfold unfoldA; repeat (first | rfl | split)

theorem do_is {x : Timed} (hv : ValidT x) {c : Cfg} (hc : GoodC x c) {i : Int} (h0 : 0 ≤ i) : ∃ (A : AV) (o : Int) (sd : Bool),
    PureIs prog 27 [.ag x.cells, edgeA c, A] (doA ((cfgStep x c i).1, o, sd, !decide ((cfgStep x c i).1.1 = -1))) ∧ (sd = true → o = (cfgStep x c i).2) ∧ (sd = false → x.m.outs = (cfgStep x c i).2 ∧ ¬ (cfgStep x c i).1.1 = -1) ∧
    ((decide (i < x.m.ins) = true ∧ A = .ifc 80 (.sc (.int .i64 i))) ∨ (decide (i < x.m.ins) = false ∧ A = .ifc 77 (.ag []))) := by
  by_cases hlt : i < x.m.ins
  · obtain ⟨r, e, h1, h2, h3, h4⟩ := stepR_get hv.m hc.st.1 hc.st.2 ⟨h0, hlt⟩
    have hs : cfgStep x c i = ((e.1, 0), e.2) := by unfold cfgStep; rw [if_pos hlt, h3]
    have hd := doIn_is x c i r e hc.st.1 h0 h1 h2
    refine ⟨_, e.2, true, ?_, fun _ => by rw [hs], nofun, .inl ⟨by simpa using hlt, rfl⟩⟩
    rw [hs]; exact hd
  · obtain ⟨t1, t2⟩ := timAt_get hv hc.st.1 hc.st.2
    have hk := hc.clock hv
    have hk0 := hc.ck
    have hs : cfgStep x c i = tickR x.m.outs (timAt x c.1) c := by unfold cfgStep; rw [if_neg hlt]
    have hd := doTick_is x c (timAt x c.1) hc.st.1 t1 (by omega)
    have ht := timOk_cases t2
    have hst := hc.st
    rw [hs]
    unfold doTick at hd
    unfold tickR
    split
    · rename_i h1
      rw [if_pos h1] at hd
      refine ⟨_, 0, false, ?_, nofun, fun _ => ⟨rfl, by simp only; omega⟩, .inr ⟨by simpa using hlt, rfl⟩⟩
      have : (!decide (c.1 = -1)) = true := by simp; omega
      simp only [this]; exact hd
    · rename_i h1
      rw [if_neg h1] at hd
      split
      · rename_i h2
        rw [if_pos h2] at hd
        refine ⟨_, (timAt x c.1).2.2, true, ?_, fun _ => rfl, nofun, .inr ⟨by simpa using hlt, rfl⟩⟩
        have : (!decide ((timAt x c.1).2.1 = -1)) = true := by simp; omega
        simp only [this]; exact hd
      · rename_i h2
        rw [if_neg h2] at hd
        refine ⟨_, 0, false, ?_, nofun, fun _ => ⟨rfl, by simp only; omega⟩, .inr ⟨by simpa using hlt, rfl⟩⟩
        have : (!decide (c.1 = -1)) = true := by simp; omega
        simp only [this]; exact hd

theorem unfold_is (x : Timed) (hr : ∀ r ∈ x.m.rows, r.2.length < 1000000) (htl : x.ts.length < 1000000) : PureIs prog 15 [.ag x.cells] (unfoldA x) := by
  refine PureIs.of (nv := 18) (hid := [21, 33, 36, 52, 59, 60, 61, 69, 85, 91, 102, 106]) func15 rfl (by kernel_rfl) (by simp [ntmps15]) fun _ => ?_
  rw [ntmps15, results15]
  refine EvC.seq (EvC.rg (by (simp only [go_sem, Timed.cells]) <;> rfl) (by simp) ?_)  -- R0
  refine EvC.frzB 0 (by (simp only [go_sem]) <;> rfl) ?_
  refine EvC.seq ?_
  apply EvC.seq  -- R1
  apply EvC.tr
  · apply Tr.run
    · (simp only [go_sem]) <;> rfl
    · simp
    apply Tr.cons
    · exact .call rfl rfl (by (simp only [go_sem]) <;> rfl) (by (simp only [go_sem]) <;> rfl) (by (simp only [go_sem]) <;> rfl) (by (simp only [go_sem]) <;> rfl) (by (simp only [go_sem]) <;> rfl) (checkT_is x hr htl)
    apply Tr.done
    · (simp only [go_sem]) <;> rfl
    · simp
  refine EvC.seq (EvC.rg (by (simp only [go_sem]) <;> rfl) (by simp) ?_)  -- R2
  refine EvC.cond (by (simp only [go_sem]) <;> rfl) (fun hc => ?_) (fun hc => ?_)
  · have hc : checkT x ≠ 0 := by simpa using hc
    refine EvC.seq (EvC.rg (by (simp only [go_sem]) <;> rfl) (by simp) ?_)  -- R3
    refine EvC.ret ⟨.inl rfl, _, (by (simp only [go_sem]) <;> rfl), ?_, unfoldA_noref _⟩
    simp only [go_sem]
    rw [unfoldA, if_pos hc]; rfl
  have hck : ¬ checkT x ≠ 0 := by simpa using hc
  clear hc
  have hv : ValidT x := .of (by simpa using hck)
  refine EvC.skip ?_
  refine EvC.seq ?_
  apply EvC.seq  -- R4
  apply EvC.trd
  · (simp only [go_sem]) <;> rfl
  · simp
  refine EvC.cond (by (simp only [go_sem]) <;> rfl) (fun hc => ?_) (fun hc => ?_)
  · have hc : x.m.ins = 16 ∨ x.m.outs = 16 := by by_cases h : x.m.ins = 16 <;> simp_all
    refine EvC.seq (EvC.rg (by (simp only [go_sem]) <;> rfl) (by simp) ?_)  -- R5
    refine EvC.ret ⟨.inl rfl, _, (by (simp only [go_sem]) <;> rfl), ?_, unfoldA_noref _⟩
    simp only [go_sem]
    rw [unfoldA, if_neg hck, if_pos hc]; rfl
  have hio : ¬ (x.m.ins = 16 ∨ x.m.outs = 16) := by by_cases h : x.m.ins = 16 <;> simp_all
  clear hc
  have hin := hv.m.ins
  have hou := hv.m.outs
  have hI1 : inI64 (x.m.ins + 1) = true := inI64_of (by omega) (by omega)
  have hI2 : inI64 (x.m.outs + 1) = true := inI64_of (by omega) (by omega)
  refine EvC.skip ?_
  apply EvC.seq  -- R6
  apply EvC.drd mixed
  · (simp only [go_sem]) <;> rfl
  · simp [descAgg, matchKinds, matchKind]
  · kernel_rfl
  refine EvC.seq (EvC.rg (by (simp only [go_sem]) <;> rfl) (by simp [hI1, hI2]) ?_)  -- R7
  refine EvC.seq ?_
  refine EvC.seq (EvC.rg (by (simp only [go_sem]) <;> rfl) (by simp) ?_)  -- R8
  refine EvC.block ?_  -- 0
  obtain ⟨N, hN⟩ : ∃ N : Nat, N = x.m.ins.toNat + 1 := ⟨_, rfl⟩
  have hN1 : (x.m.ins + 1).toNat = N := by omega
  have hN2 : ((N : Nat) : Int) = x.m.ins + 1 := by omega
  refine EvC.ownC 35 2 1 (by (simp only [go_sem]) <;> rfl) ?_
  refine EvC.loopS (σ := Nat × List Cfg × List (List (Int × Int))) (fun g => ⟨[(1, .ia x.cells), (2, .rf 0 0), (5, .tl 2 g.2.1.length false), (6, .mp 1), (7, .rf 3 0), (8, .sc (.int .i64 g.1))], [],
      [(0, .cells [.sc (.int .i64 0), .sc (.int .i64 0), .sl true [] .zer]), (1, .map 75 (ents 0 g.2.1)), (2, .arr 2 (g.2.1.map edgeC) false), (3, .cells [.sc (.int .i64 (x.m.ins + 1)), .sc (.int .i64 (x.m.outs + 1)), .tl 4 g.2.2.length g.2.2.isEmpty]), (4, .arr 1 (g.2.2.map rowF) true)], 5⟩) (fun g => 100 - g.1)
    (fun g => GoodCs x g.2.1 ∧ 1 ≤ g.2.1.length ∧ g.2.1.length ≤ 64 ∧ g.1 ≤ g.2.1.length ∧ g.2.2.length = g.1 ∧ ∃ f, f + g.1 = 100 ∧ unfAll x = (g.2.2 ++ (unfR x f g.1 g.2.1).1, (unfR x f g.1 g.2.1).2)) [1, 2, 5, 6, 7, 8] 5 ?_ ?_
  · refine ⟨[(1, 0), (20, 1), (19, 2), (35, 3), (38, 4)], (0, [(0, 0)], []), rfl, (by (simp only [go_sem, ents, pairV, edgeC]) <;> rfl), ?_, by simp, by simp, by simp, rfl, 100, rfl, rfl⟩
    intro c hc
    simp only [List.mem_singleton] at hc
    subst hc; exact .zero hv
  rintro ⟨n, l, rows⟩ ⟨hg, hl1, hl2, hnl, hrl, f, hf, hall⟩
  simp only at hg hl1 hl2 hnl hrl hf hall
  refine EvC.seq ?_
  refine EvC.seq (EvC.rg (by (simp only [go_sem]) <;> rfl) (by simp) ?_)  -- R9
  refine EvC.cond (by (simp only [go_sem]) <;> rfl) (fun hc => ?_) (fun hc => ?_)
  rotate_left
  · refine EvC.exit ?_  -- 0
    have hc : ¬ n < l.length := by simpa using hc
    have hun : unfR x f n l = ([], l) := by
      cases f with
      | zero => rfl
      | succ f => simp only [unfR, List.getElem?_eq_none (show l.length ≤ n by omega)]
    rw [hun] at hall
    refine EvC.frzD 4 (by (simp only [go_sem]) <;> rfl) ?_
    apply EvC.seq  -- R32
    apply EvC.tr
    · apply Tr.run
      · (simp only [go_sem]) <;> rfl
      · simp
      apply Tr.cons
      · exact .call rfl rfl (by (simp only [go_sem]) <;> rfl) (by (simp only [go_sem]) <;> rfl) (by (simp only [go_sem]) <;> rfl) (by (simp only [go_sem]) <;> rfl) (by (simp only [go_sem]) <;> rfl) (clip29_is rows.isEmpty (rows.map rowF) .unk (by simp [rowF, rowC]))
      apply Tr.done
      · (simp only [go_sem]) <;> rfl
      · simp
    refine EvC.seq (EvC.rg (by (simp only [go_sem]) <;> rfl) (by simp) ?_)  -- R33
    refine EvC.ret ⟨.inl rfl, _, (by (simp only [go_sem]) <;> rfl), ?_, unfoldA_noref _⟩
    simp only [go_sem]
    have hne : rows.isEmpty = false := by
      cases rows with
      | nil => simp at hrl; omega
      | cons r rs => rfl
    rw [unfoldA, if_neg hck, if_neg hio, hall, if_pos (by simpa using hl2), hne]
    simp
  have hc : n < l.length := by simpa using hc
  have he : l[n]? = some l[n] := List.getElem?_eq_getElem hc
  have hgc : GoodC x l[n] := hg _ (List.getElem_mem hc)
  generalize l[n] = c at he hgc
  obtain ⟨f, rfl⟩ : ∃ k, f = k + 1 := ⟨f - 1, by omega⟩
  have hstep : unfR x (f + 1) n l = ((rowU x c N 0 l).1 :: (unfR x f (n + 1) (rowU x c N 0 l).2).1, (unfR x f (n + 1) (rowU x c N 0 l).2).2) := by
    rw [unfR, he]
    simp only
    rw [if_neg (by omega), ← hN]
  rw [hstep] at hall
  have hg0 := hg
  refine EvC.skip ?_
  refine EvC.seq ?_
  refine EvC.block ?_  -- 1
  have hrep : List.replicate N [AV.sc (Value.int .i64 0), AV.sc (Value.int .i64 0)] = (List.replicate N ((0, 0) : Int × Int)).map edgeC := by simp [edgeC, List.map_replicate]
  refine EvC.seq (EvC.rg (by (simp only [go_sem, hN1, hrep]) <;> rfl) ?_ ?_)  -- R11
  · simp [room_eq]; omega
  refine EvC.seq ?_
  refine EvC.seq (EvC.rg (by (simp only [go_sem, List.length_map, List.length_replicate]) <;> rfl) (by simp) ?_)  -- R12
  refine EvC.block ?_  -- 2
  refine EvC.loopS (σ := Nat × List Cfg × List (Int × Int)) (fun g => ⟨[(1, .ia x.cells), (2, .rf 0 0), (5, .tl 2 g.2.1.length false), (6, .mp 1), (7, .rf 3 0), (8, .sc (.int .i64 n)), (9, .tl 5 N false), (59, .sc (.int .i64 N)), (60, .sc (.int .i64 g.1))], [],
      [(0, .cells [.sc (.int .i64 0), .sc (.int .i64 0), .sl true [] .zer]), (1, .map 75 (ents 0 g.2.1)), (2, .arr 2 (g.2.1.map edgeC) false), (3, .cells [.sc (.int .i64 (x.m.ins + 1)), .sc (.int .i64 (x.m.outs + 1)), .tl 4 rows.length rows.isEmpty]), (4, .arr 1 (rows.map rowF) true),
       (5, .arr 2 ((g.2.2 ++ List.replicate (N - g.1) (0, 0)).map edgeC) false)], 6⟩) (fun g => N - g.1)
    (fun g => GoodCs x g.2.1 ∧ g.2.1.length ≤ 64 ∧ n < g.2.1.length ∧ g.2.1[n]? = some c ∧ g.2.2.length = g.1 ∧ g.1 ≤ N ∧ rowU x c N 0 l = (g.2.2 ++ (rowU x c (N - g.1) g.1 g.2.1).1, (rowU x c (N - g.1) g.1 g.2.1).2)) [1, 2, 5, 6, 7, 8, 9, 59, 60] 6 ?_ ?_
  · refine ⟨[(0, 0), (1, 1), (2, 2), (3, 3), (4, 4), (11, 5)], (0, l, []), rfl, (by (simp only [go_sem]) <;> rfl), hg, hl2, hc, he, rfl, Nat.zero_le _, rfl⟩
  rintro ⟨i, l', pre⟩ ⟨hg, hl2, hc, he, hpl, hiN, hrow⟩
  simp only at hg hl2 hc he hpl hiN hrow
  obtain ⟨R, hR⟩ : ∃ R, R = pre ++ List.replicate (N - i) ((0, 0) : Int × Int) := ⟨_, rfl⟩
  simp only [← hR]
  refine EvC.seq (EvC.rg (by (simp only [go_sem]) <;> rfl) (by simp) ?_)  -- R13
  refine EvC.seq ?_
  refine EvC.cond (by (simp only [go_sem]) <;> rfl) (fun hci => ?_) (fun hci => ?_)
  rotate_left
  · refine EvC.exit ?_  -- 2
    have hci : ¬ i < N := by simpa using hci
    obtain rfl : i = N := by omega
    rw [Nat.sub_self, rowU, List.append_nil] at hrow
    rw [hrow] at hall
    simp only at hall
    have hlen : pre.length = i := hpl
    obtain rfl : R = pre := by rw [hR, Nat.sub_self]; simp
    clear hR
    refine EvC.frz 5 (by (simp only [go_sem, Nat.sub_self, hlen, List.length_map]) <;> rfl) ?_
    refine EvC.rg (by (simp only [go_sem]) <;> rfl) ?_ ?_  -- R31
    · simp [room_eq, AV.norefs, AV.noref]; omega
    refine EvC.rg (by (simp only [go_sem]) <;> rfl) (inI64_of (by omega) (by omega)) ?_  -- R10
    refine ⟨[(0, 0), (1, 1), (2, 2), (3, 3), (4, 4)], (n + 1, l', rows ++ [R]), rfl, (by (simp only [go_sem, rowF, rowC]) <;> rfl), ⟨hg, by simp only; omega, hl2, by simp only; omega, by simp [hrl], f, by simp only; omega, by rw [hall]; simp⟩, by simp only; omega⟩
  have hci : i < N := by simpa using hci
  obtain ⟨m, hm⟩ : ∃ m, N - i = m + 1 := ⟨N - i - 1, by omega⟩
  have hm' : N - (i + 1) = m := by omega
  rw [hm, rowU] at hrow
  have hrepl : R = pre ++ (0, 0) :: List.replicate m (0, 0) := by rw [hR, hm, List.replicate_succ]
  have hlenN : R.length = N := by rw [hrepl]; simp; omega
  have hset : ∀ a b : Int, (R.map edgeC).set i [.sc (.int .i64 a), .sc (.int .i64 b)] = ((pre ++ [(a, b)]) ++ List.replicate (N - (i + 1)) (0, 0)).map edgeC := fun a b => by
    show (R.map edgeC).set i (edgeC (a, b)) = _
    rw [hrepl, ← List.map_set, List.set_append_right _ _ (by omega), hpl, Nat.sub_self, List.set_cons_zero, hm']; simp
  have hget : R[i]? = some (0, 0) := by
    rw [hrepl, List.getElem?_append_right (by omega), hpl, Nat.sub_self]; rfl
  clear hrepl hR
  obtain ⟨A, o, sd, hdo, ho1, ho2, hA⟩ := do_is hv hgc (i := i) (by omega)
  have hcs := cfgStep_good hv hgc (i := i) (by omega)
  have hIi : inI64 ((i : Int) + 1) = true := inI64_of (by omega) (by omega)
  obtain ⟨to, hto⟩ : ∃ to, to = (cfgStep x c i).1 := ⟨_, rfl⟩
  obtain ⟨ou, hou'⟩ : ∃ ou, ou = (cfgStep x c i).2 := ⟨_, rfl⟩
  rw [← hto] at hdo ho2 hcs
  rw [← hou'] at ho1 ho2 hcs
  have hent : entU x c i l' = if to.1 < 0 then (((-1 : Int), ou), l') else ((((idxC to l' : Nat) : Int), ou), addC to l') := by unfold entU; rw [← hto, ← hou']
  refine EvC.skip ?_
  refine EvC.seq ?_
  refine EvC.block ?_  -- 3
  refine EvC.seq (EvC.rg (by (simp only [go_sem]) <;> rfl) (by simp) ?_)  -- R14
  refine EvC.seq (EvC.rg (by (simp only [go_sem]) <;> rfl) (by simp) ?_)  -- R15
  refine EvC.seq ?_
  refine EvC.seq (EvC.rg (by (simp only [go_sem, Timed.cells]) <;> rfl) (by simp) ?_)  -- R16
  rcases hA with ⟨hA1, rfl⟩ | ⟨hA1, rfl⟩
  · refine EvC.cond_true (by (simp only [go_sem, hA1]) <;> rfl) ?_
    refine EvC.rg (by (simp only [go_sem]) <;> rfl) (by simp) ?_  -- R17
    apply EvC.seq  -- R18
    apply EvC.drw mixed
    · apply Tr.run
      · (simp only [go_sem, Timed.cells, he, edgeC]) <;> rfl
      · simp [hc]
      apply Tr.cons
      · exact .call rfl rfl (by (simp only [go_sem]) <;> rfl) (by (simp only [go_sem]) <;> rfl) (by (simp only [go_sem]) <;> rfl) (by (simp only [go_sem]) <;> rfl) (by (simp only [go_sem]) <;> rfl) (by simpa [Timed.cells, edgeA] using hdo)
      apply Tr.done
      · (simp only [go_sem, doA, edgeA]) <;> rfl
      · simp
    · kernel_rfl
    refine EvC.seq ?_
    refine EvC.seq (EvC.rg (by (simp only [go_sem]) <;> rfl) (by simp) ?_)  -- R19
    refine EvC.cond (by (simp only [go_sem]) <;> rfl) (fun hd => ?_) (fun hd => ?_)
    · have hd : to.1 = -1 := by simpa using hd
      have hou2 : ou = -1 := by
        rcases hcs with hcs | hcs
        · have := hcs.1.st; omega
        · exact hcs.2.1
      rw [if_pos (by omega), hou2] at hent
      rw [hent] at hrow
      refine EvC.seq (EvC.rg (by (simp only [go_sem, hget, edgeC, hset, List.length_map]) <;> rfl) (by simp [hlenN, hci]) ?_)  -- R20
      refine EvC.exit ?_  -- 3
      refine EvC.rg (by (simp only [go_sem]) <;> rfl) hIi ?_  -- R30
      refine ⟨[(0, 0), (1, 1), (2, 2), (3, 3), (4, 4), (5, 5)], (i + 1, l', pre ++ [(-1, -1)]), rfl, (by (simp only [go_sem, edgeC]) <;> rfl), ⟨hg, hl2, hc, he, by simp [hpl], by simp only; omega, ?_⟩, by simp only; omega⟩
      simp only
      rw [hrow, hm']; simp
    have hd : ¬ to.1 = -1 := by simpa using hd
    have hgt : GoodC x to := by
      rcases hcs with hcs | hcs
      · exact hcs.1
      · exact absurd hcs.1 hd
    have hto0 := hgt.st
    rw [if_neg (by omega)] at hent
    rw [hent] at hrow
    refine EvC.skip ?_
    refine EvC.seq ?_
    refine EvC.seq (EvC.rg (by (simp only [go_sem]) <;> rfl) (by simp) ?_)  -- R21
    have helk := elook_ents to l' 0
    cases sd
    · refine EvC.cond_true (by (simp only [go_sem]) <;> rfl) ?_
      refine EvC.rg (by (simp only [go_sem, Timed.cells]) <;> rfl) (by simp) ?_  -- R22
      have ho2 := (ho2 rfl).1
      rw [← ho2] at hrow
      by_cases hmem : to ∈ l'
      · have hel : elook (ents 0 l') (.agg [Value.int .i64 to.1, .int .i64 to.2].toArray) = some (.sc (.int .i64 (idxC to l' : Nat))) := by
          rw [if_pos hmem, Nat.zero_add] at helk; exact helk
        have haddC : addC to l' = l' := if_pos hmem
        rw [haddC] at hrow
        refine EvC.seq (EvC.rg (by (simp only [go_sem, hel]) <;> rfl) (by simp) ?_)  -- R23
        refine EvC.seq ?_
        refine EvC.seq (EvC.rg (by (simp only [go_sem]) <;> rfl) (by simp) ?_)  -- R24
        refine EvC.cond_false (by (simp only [go_sem]) <;> rfl) ?_
        refine EvC.skip ?_
        refine EvC.rg (by (simp only [go_sem, hget, edgeC, hset, List.length_map]) <;> rfl) (by simp [hlenN, hci]) ?_  -- R29
        refine EvC.rg (by (simp only [go_sem]) <;> rfl) hIi ?_  -- R30
        refine ⟨[(0, 0), (1, 1), (2, 2), (3, 3), (4, 4), (5, 5)], (i + 1, l', pre ++ [(((idxC to l' : Nat) : Int), x.m.outs)]), rfl, (by (simp only [go_sem, edgeC]) <;> rfl), ⟨hg, hl2, hc, he, by simp [hpl], by simp only; omega, ?_⟩, by simp only; omega⟩
        simp only
        rw [hrow, hm']; simp
      · have hel : elook (ents 0 l') (.agg [Value.int .i64 to.1, .int .i64 to.2].toArray) = none := by
          rw [if_neg hmem] at helk; exact helk
        have haddC : addC to l' = l' ++ [to] := if_neg hmem
        have hidx : idxC to l' = l'.length := by
          have h1 := idxC_le to l'
          have h2 := mt idxC_mem.1 hmem
          omega
        have hes : eset (ents 0 l') (.agg [Value.int .i64 to.1, .int .i64 to.2].toArray) (.sc (.int .i64 l'.length)) = ents 0 (l' ++ [to]) := by
          have := eset_ents to l' 0 hmem
          rw [Nat.zero_add] at this
          exact this
        rw [haddC, hidx] at hrow
        refine EvC.seq (EvC.rg (by (simp only [go_sem, hel]) <;> rfl) (by simp) ?_)  -- R23
        refine EvC.seq ?_
        refine EvC.seq (EvC.rg (by (simp only [go_sem]) <;> rfl) (by simp) ?_)  -- R24
        refine EvC.cond_true (by (simp only [go_sem]) <;> rfl) ?_
        refine EvC.seq ?_
        refine EvC.seq (EvC.rg (by (simp only [go_sem, List.length_map]) <;> rfl) (by simp) ?_)  -- R25
        refine EvC.seq (EvC.rg (by (simp only [go_sem]) <;> rfl) (by simp) ?_)  -- R26
        refine EvC.cond (by (simp only [go_sem]) <;> rfl) (fun h64 => ?_) (fun h64 => ?_)
        · have h64 : l'.length = 64 := by
            have : (l'.length : Int) = 64 := by simpa using h64
            omega
          refine EvC.seq (EvC.rg (by (simp only [go_sem]) <;> rfl) (by simp) ?_)  -- R27
          refine EvC.ret ⟨.inl rfl, _, (by (simp only [go_sem]) <;> rfl), ?_, unfoldA_noref _⟩
          simp only [go_sem]
          have hbig : ¬ (unfAll x).2.length ≤ 64 := by
            rw [hall]
            simp only
            have h1 := unfR_len x f (n + 1) (rowU x c N 0 l).2
            have h2 := (rowU_len x c m (i + 1) (l' ++ [to])).1
            have h3 : (rowU x c N 0 l).2 = (rowU x c m (i + 1) (l' ++ [to])).2 := by rw [hrow]
            rw [h3] at h1 ⊢
            simp only [List.length_append, List.length_cons, List.length_nil] at h2
            omega
          rw [unfoldA, if_neg hck, if_neg hio, if_neg hbig]; rfl
        have h64 : ¬ l'.length = 64 := by
          have : ¬ (l'.length : Int) = 64 := by simpa using h64
          omega
        refine EvC.skip ?_
        apply EvC.drd mixed  -- R28
        · (simp only [go_sem, hes]) <;> rfl
        · simp [room_eq, AV.norefs, AV.noref, descAgg, matchKinds, matchKind]; omega
        · kernel_rfl
        refine EvC.rg (by (simp only [go_sem, hget, edgeC, hset, List.length_map]) <;> rfl) (by simp [hlenN, hci]) ?_  -- R29
        refine EvC.rg (by (simp only [go_sem]) <;> rfl) hIi ?_  -- R30
        refine ⟨[(0, 0), (1, 1), (2, 2), (3, 3), (4, 4), (5, 5)], (i + 1, l' ++ [to], pre ++ [((l'.length : Int), x.m.outs)]), rfl, (by (simp only [go_sem, edgeC]) <;> rfl), ⟨(fun d hd => by rcases List.mem_append.1 hd with h | h; exact hg d h; simp only [List.mem_singleton] at h; subst h; exact hgt), by simp; omega, by simp; omega, by rw [List.getElem?_append_left hc]; exact he, by simp [hpl], by simp only; omega, ?_⟩, by simp only; omega⟩
        simp only
        rw [hrow, hm']; simp
    · refine EvC.cond_false (by (simp only [go_sem]) <;> rfl) ?_
      refine EvC.skip ?_
      have ho1 := ho1 rfl
      rw [← ho1] at hrow
      by_cases hmem : to ∈ l'
      · have hel : elook (ents 0 l') (.agg [Value.int .i64 to.1, .int .i64 to.2].toArray) = some (.sc (.int .i64 (idxC to l' : Nat))) := by
          rw [if_pos hmem, Nat.zero_add] at helk; exact helk
        have haddC : addC to l' = l' := if_pos hmem
        rw [haddC] at hrow
        refine EvC.seq (EvC.rg (by (simp only [go_sem, hel]) <;> rfl) (by simp) ?_)  -- R23
        refine EvC.seq ?_
        refine EvC.seq (EvC.rg (by (simp only [go_sem]) <;> rfl) (by simp) ?_)  -- R24
        refine EvC.cond_false (by (simp only [go_sem]) <;> rfl) ?_
        refine EvC.skip ?_
        refine EvC.rg (by (simp only [go_sem, hget, edgeC, hset, List.length_map]) <;> rfl) (by simp [hlenN, hci]) ?_  -- R29
        refine EvC.rg (by (simp only [go_sem]) <;> rfl) hIi ?_  -- R30
        refine ⟨[(0, 0), (1, 1), (2, 2), (3, 3), (4, 4), (5, 5)], (i + 1, l', pre ++ [(((idxC to l' : Nat) : Int), o)]), rfl, (by (simp only [go_sem, edgeC]) <;> rfl), ⟨hg, hl2, hc, he, by simp [hpl], by simp only; omega, ?_⟩, by simp only; omega⟩
        simp only
        rw [hrow, hm']; simp
      · have hel : elook (ents 0 l') (.agg [Value.int .i64 to.1, .int .i64 to.2].toArray) = none := by
          rw [if_neg hmem] at helk; exact helk
        have haddC : addC to l' = l' ++ [to] := if_neg hmem
        have hidx : idxC to l' = l'.length := by
          have h1 := idxC_le to l'
          have h2 := mt idxC_mem.1 hmem
          omega
        have hes : eset (ents 0 l') (.agg [Value.int .i64 to.1, .int .i64 to.2].toArray) (.sc (.int .i64 l'.length)) = ents 0 (l' ++ [to]) := by
          have := eset_ents to l' 0 hmem
          rw [Nat.zero_add] at this
          exact this
        rw [haddC, hidx] at hrow
        refine EvC.seq (EvC.rg (by (simp only [go_sem, hel]) <;> rfl) (by simp) ?_)  -- R23
        refine EvC.seq ?_
        refine EvC.seq (EvC.rg (by (simp only [go_sem]) <;> rfl) (by simp) ?_)  -- R24
        refine EvC.cond_true (by (simp only [go_sem]) <;> rfl) ?_
        refine EvC.seq ?_
        refine EvC.seq (EvC.rg (by (simp only [go_sem, List.length_map]) <;> rfl) (by simp) ?_)  -- R25
        refine EvC.seq (EvC.rg (by (simp only [go_sem]) <;> rfl) (by simp) ?_)  -- R26
        refine EvC.cond (by (simp only [go_sem]) <;> rfl) (fun h64 => ?_) (fun h64 => ?_)
        · have h64 : l'.length = 64 := by
            have : (l'.length : Int) = 64 := by simpa using h64
            omega
          refine EvC.seq (EvC.rg (by (simp only [go_sem]) <;> rfl) (by simp) ?_)  -- R27
          refine EvC.ret ⟨.inl rfl, _, (by (simp only [go_sem]) <;> rfl), ?_, unfoldA_noref _⟩
          simp only [go_sem]
          have hbig : ¬ (unfAll x).2.length ≤ 64 := by
            rw [hall]
            simp only
            have h1 := unfR_len x f (n + 1) (rowU x c N 0 l).2
            have h2 := (rowU_len x c m (i + 1) (l' ++ [to])).1
            have h3 : (rowU x c N 0 l).2 = (rowU x c m (i + 1) (l' ++ [to])).2 := by rw [hrow]
            rw [h3] at h1 ⊢
            simp only [List.length_append, List.length_cons, List.length_nil] at h2
            omega
          rw [unfoldA, if_neg hck, if_neg hio, if_neg hbig]; rfl
        have h64 : ¬ l'.length = 64 := by
          have : ¬ (l'.length : Int) = 64 := by simpa using h64
          omega
        refine EvC.skip ?_
        apply EvC.drd mixed  -- R28
        · (simp only [go_sem, hes]) <;> rfl
        · simp [room_eq, AV.norefs, AV.noref, descAgg, matchKinds, matchKind]; omega
        · kernel_rfl
        refine EvC.rg (by (simp only [go_sem, hget, edgeC, hset, List.length_map]) <;> rfl) (by simp [hlenN, hci]) ?_  -- R29
        refine EvC.rg (by (simp only [go_sem]) <;> rfl) hIi ?_  -- R30
        refine ⟨[(0, 0), (1, 1), (2, 2), (3, 3), (4, 4), (5, 5)], (i + 1, l' ++ [to], pre ++ [((l'.length : Int), o)]), rfl, (by (simp only [go_sem, edgeC]) <;> rfl), ⟨(fun d hd => by rcases List.mem_append.1 hd with h | h; exact hg d h; simp only [List.mem_singleton] at h; subst h; exact hgt), by simp; omega, by simp; omega, by rw [List.getElem?_append_left hc]; exact he, by simp [hpl], by simp only; omega, ?_⟩, by simp only; omega⟩
        simp only
        rw [hrow, hm']; simp
  · refine EvC.cond_false (by (simp only [go_sem, hA1]) <;> rfl) ?_
    refine EvC.skip ?_
    apply EvC.seq  -- R18
    apply EvC.drw mixed
    · apply Tr.run
      · (simp only [go_sem, Timed.cells, he, edgeC]) <;> rfl
      · simp [hc]
      apply Tr.cons
      · exact .call rfl rfl (by (simp only [go_sem]) <;> rfl) (by (simp only [go_sem]) <;> rfl) (by (simp only [go_sem]) <;> rfl) (by (simp only [go_sem]) <;> rfl) (by (simp only [go_sem]) <;> rfl) (by simpa [Timed.cells, edgeA] using hdo)
      apply Tr.done
      · (simp only [go_sem, doA, edgeA]) <;> rfl
      · simp
    · kernel_rfl
    refine EvC.seq ?_
    refine EvC.seq (EvC.rg (by (simp only [go_sem]) <;> rfl) (by simp) ?_)  -- R19
    refine EvC.cond (by (simp only [go_sem]) <;> rfl) (fun hd => ?_) (fun hd => ?_)
    · have hd : to.1 = -1 := by simpa using hd
      have hou2 : ou = -1 := by
        rcases hcs with hcs | hcs
        · have := hcs.1.st; omega
        · exact hcs.2.1
      rw [if_pos (by omega), hou2] at hent
      rw [hent] at hrow
      refine EvC.seq (EvC.rg (by (simp only [go_sem, hget, edgeC, hset, List.length_map]) <;> rfl) (by simp [hlenN, hci]) ?_)  -- R20
      refine EvC.exit ?_  -- 3
      refine EvC.rg (by (simp only [go_sem]) <;> rfl) hIi ?_  -- R30
      refine ⟨[(0, 0), (1, 1), (2, 2), (3, 3), (4, 4), (5, 5)], (i + 1, l', pre ++ [(-1, -1)]), rfl, (by (simp only [go_sem, edgeC]) <;> rfl), ⟨hg, hl2, hc, he, by simp [hpl], by simp only; omega, ?_⟩, by simp only; omega⟩
      simp only
      rw [hrow, hm']; simp
    have hd : ¬ to.1 = -1 := by simpa using hd
    have hgt : GoodC x to := by
      rcases hcs with hcs | hcs
      · exact hcs.1
      · exact absurd hcs.1 hd
    have hto0 := hgt.st
    rw [if_neg (by omega)] at hent
    rw [hent] at hrow
    refine EvC.skip ?_
    refine EvC.seq ?_
    refine EvC.seq (EvC.rg (by (simp only [go_sem]) <;> rfl) (by simp) ?_)  -- R21
    have helk := elook_ents to l' 0
    cases sd
    · refine EvC.cond_true (by (simp only [go_sem]) <;> rfl) ?_
      refine EvC.rg (by (simp only [go_sem, Timed.cells]) <;> rfl) (by simp) ?_  -- R22
      have ho2 := (ho2 rfl).1
      rw [← ho2] at hrow
      by_cases hmem : to ∈ l'
      · have hel : elook (ents 0 l') (.agg [Value.int .i64 to.1, .int .i64 to.2].toArray) = some (.sc (.int .i64 (idxC to l' : Nat))) := by
          rw [if_pos hmem, Nat.zero_add] at helk; exact helk
        have haddC : addC to l' = l' := if_pos hmem
        rw [haddC] at hrow
        refine EvC.seq (EvC.rg (by (simp only [go_sem, hel]) <;> rfl) (by simp) ?_)  -- R23
        refine EvC.seq ?_
        refine EvC.seq (EvC.rg (by (simp only [go_sem]) <;> rfl) (by simp) ?_)  -- R24
        refine EvC.cond_false (by (simp only [go_sem]) <;> rfl) ?_
        refine EvC.skip ?_
        refine EvC.rg (by (simp only [go_sem, hget, edgeC, hset, List.length_map]) <;> rfl) (by simp [hlenN, hci]) ?_  -- R29
        refine EvC.rg (by (simp only [go_sem]) <;> rfl) hIi ?_  -- R30
        refine ⟨[(0, 0), (1, 1), (2, 2), (3, 3), (4, 4), (5, 5)], (i + 1, l', pre ++ [(((idxC to l' : Nat) : Int), x.m.outs)]), rfl, (by (simp only [go_sem, edgeC]) <;> rfl), ⟨hg, hl2, hc, he, by simp [hpl], by simp only; omega, ?_⟩, by simp only; omega⟩
        simp only
        rw [hrow, hm']; simp
      · have hel : elook (ents 0 l') (.agg [Value.int .i64 to.1, .int .i64 to.2].toArray) = none := by
          rw [if_neg hmem] at helk; exact helk
        have haddC : addC to l' = l' ++ [to] := if_neg hmem
        have hidx : idxC to l' = l'.length := by
          have h1 := idxC_le to l'
          have h2 := mt idxC_mem.1 hmem
          omega
        have hes : eset (ents 0 l') (.agg [Value.int .i64 to.1, .int .i64 to.2].toArray) (.sc (.int .i64 l'.length)) = ents 0 (l' ++ [to]) := by
          have := eset_ents to l' 0 hmem
          rw [Nat.zero_add] at this
          exact this
        rw [haddC, hidx] at hrow
        refine EvC.seq (EvC.rg (by (simp only [go_sem, hel]) <;> rfl) (by simp) ?_)  -- R23
        refine EvC.seq ?_
        refine EvC.seq (EvC.rg (by (simp only [go_sem]) <;> rfl) (by simp) ?_)  -- R24
        refine EvC.cond_true (by (simp only [go_sem]) <;> rfl) ?_
        refine EvC.seq ?_
        refine EvC.seq (EvC.rg (by (simp only [go_sem, List.length_map]) <;> rfl) (by simp) ?_)  -- R25
        refine EvC.seq (EvC.rg (by (simp only [go_sem]) <;> rfl) (by simp) ?_)  -- R26
        refine EvC.cond (by (simp only [go_sem]) <;> rfl) (fun h64 => ?_) (fun h64 => ?_)
        · have h64 : l'.length = 64 := by
            have : (l'.length : Int) = 64 := by simpa using h64
            omega
          refine EvC.seq (EvC.rg (by (simp only [go_sem]) <;> rfl) (by simp) ?_)  -- R27
          refine EvC.ret ⟨.inl rfl, _, (by (simp only [go_sem]) <;> rfl), ?_, unfoldA_noref _⟩
          simp only [go_sem]
          have hbig : ¬ (unfAll x).2.length ≤ 64 := by
            rw [hall]
            simp only
            have h1 := unfR_len x f (n + 1) (rowU x c N 0 l).2
            have h2 := (rowU_len x c m (i + 1) (l' ++ [to])).1
            have h3 : (rowU x c N 0 l).2 = (rowU x c m (i + 1) (l' ++ [to])).2 := by rw [hrow]
            rw [h3] at h1 ⊢
            simp only [List.length_append, List.length_cons, List.length_nil] at h2
            omega
          rw [unfoldA, if_neg hck, if_neg hio, if_neg hbig]; rfl
        have h64 : ¬ l'.length = 64 := by
          have : ¬ (l'.length : Int) = 64 := by simpa using h64
          omega
        refine EvC.skip ?_
        apply EvC.drd mixed  -- R28
        · (simp only [go_sem, hes]) <;> rfl
        · simp [room_eq, AV.norefs, AV.noref, descAgg, matchKinds, matchKind]; omega
        · kernel_rfl
        refine EvC.rg (by (simp only [go_sem, hget, edgeC, hset, List.length_map]) <;> rfl) (by simp [hlenN, hci]) ?_  -- R29
        refine EvC.rg (by (simp only [go_sem]) <;> rfl) hIi ?_  -- R30
        refine ⟨[(0, 0), (1, 1), (2, 2), (3, 3), (4, 4), (5, 5)], (i + 1, l' ++ [to], pre ++ [((l'.length : Int), x.m.outs)]), rfl, (by (simp only [go_sem, edgeC]) <;> rfl), ⟨(fun d hd => by rcases List.mem_append.1 hd with h | h; exact hg d h; simp only [List.mem_singleton] at h; subst h; exact hgt), by simp; omega, by simp; omega, by rw [List.getElem?_append_left hc]; exact he, by simp [hpl], by simp only; omega, ?_⟩, by simp only; omega⟩
        simp only
        rw [hrow, hm']; simp
    · refine EvC.cond_false (by (simp only [go_sem]) <;> rfl) ?_
      refine EvC.skip ?_
      have ho1 := ho1 rfl
      rw [← ho1] at hrow
      by_cases hmem : to ∈ l'
      · have hel : elook (ents 0 l') (.agg [Value.int .i64 to.1, .int .i64 to.2].toArray) = some (.sc (.int .i64 (idxC to l' : Nat))) := by
          rw [if_pos hmem, Nat.zero_add] at helk; exact helk
        have haddC : addC to l' = l' := if_pos hmem
        rw [haddC] at hrow
        refine EvC.seq (EvC.rg (by (simp only [go_sem, hel]) <;> rfl) (by simp) ?_)  -- R23
        refine EvC.seq ?_
        refine EvC.seq (EvC.rg (by (simp only [go_sem]) <;> rfl) (by simp) ?_)  -- R24
        refine EvC.cond_false (by (simp only [go_sem]) <;> rfl) ?_
        refine EvC.skip ?_
        refine EvC.rg (by (simp only [go_sem, hget, edgeC, hset, List.length_map]) <;> rfl) (by simp [hlenN, hci]) ?_  -- R29
        refine EvC.rg (by (simp only [go_sem]) <;> rfl) hIi ?_  -- R30
        refine ⟨[(0, 0), (1, 1), (2, 2), (3, 3), (4, 4), (5, 5)], (i + 1, l', pre ++ [(((idxC to l' : Nat) : Int), o)]), rfl, (by (simp only [go_sem, edgeC]) <;> rfl), ⟨hg, hl2, hc, he, by simp [hpl], by simp only; omega, ?_⟩, by simp only; omega⟩
        simp only
        rw [hrow, hm']; simp
      · have hel : elook (ents 0 l') (.agg [Value.int .i64 to.1, .int .i64 to.2].toArray) = none := by
          rw [if_neg hmem] at helk; exact helk
        have haddC : addC to l' = l' ++ [to] := if_neg hmem
        have hidx : idxC to l' = l'.length := by
          have h1 := idxC_le to l'
          have h2 := mt idxC_mem.1 hmem
          omega
        have hes : eset (ents 0 l') (.agg [Value.int .i64 to.1, .int .i64 to.2].toArray) (.sc (.int .i64 l'.length)) = ents 0 (l' ++ [to]) := by
          have := eset_ents to l' 0 hmem
          rw [Nat.zero_add] at this
          exact this
        rw [haddC, hidx] at hrow
        refine EvC.seq (EvC.rg (by (simp only [go_sem, hel]) <;> rfl) (by simp) ?_)  -- R23
        refine EvC.seq ?_
        refine EvC.seq (EvC.rg (by (simp only [go_sem]) <;> rfl) (by simp) ?_)  -- R24
        refine EvC.cond_true (by (simp only [go_sem]) <;> rfl) ?_
        refine EvC.seq ?_
        refine EvC.seq (EvC.rg (by (simp only [go_sem, List.length_map]) <;> rfl) (by simp) ?_)  -- R25
        refine EvC.seq (EvC.rg (by (simp only [go_sem]) <;> rfl) (by simp) ?_)  -- R26
        refine EvC.cond (by (simp only [go_sem]) <;> rfl) (fun h64 => ?_) (fun h64 => ?_)
        · have h64 : l'.length = 64 := by
            have : (l'.length : Int) = 64 := by simpa using h64
            omega
          refine EvC.seq (EvC.rg (by (simp only [go_sem]) <;> rfl) (by simp) ?_)  -- R27
          refine EvC.ret ⟨.inl rfl, _, (by (simp only [go_sem]) <;> rfl), ?_, unfoldA_noref _⟩
          simp only [go_sem]
          have hbig : ¬ (unfAll x).2.length ≤ 64 := by
            rw [hall]
            simp only
            have h1 := unfR_len x f (n + 1) (rowU x c N 0 l).2
            have h2 := (rowU_len x c m (i + 1) (l' ++ [to])).1
            have h3 : (rowU x c N 0 l).2 = (rowU x c m (i + 1) (l' ++ [to])).2 := by rw [hrow]
            rw [h3] at h1 ⊢
            simp only [List.length_append, List.length_cons, List.length_nil] at h2
            omega
          rw [unfoldA, if_neg hck, if_neg hio, if_neg hbig]; rfl
        have h64 : ¬ l'.length = 64 := by
          have : ¬ (l'.length : Int) = 64 := by simpa using h64
          omega
        refine EvC.skip ?_
        apply EvC.drd mixed  -- R28
        · (simp only [go_sem, hes]) <;> rfl
        · simp [room_eq, AV.norefs, AV.noref, descAgg, matchKinds, matchKind]; omega
        · kernel_rfl
        refine EvC.rg (by (simp only [go_sem, hget, edgeC, hset, List.length_map]) <;> rfl) (by simp [hlenN, hci]) ?_  -- R29
        refine EvC.rg (by (simp only [go_sem]) <;> rfl) hIi ?_  -- R30
        refine ⟨[(0, 0), (1, 1), (2, 2), (3, 3), (4, 4), (5, 5)], (i + 1, l' ++ [to], pre ++ [((l'.length : Int), o)]), rfl, (by (simp only [go_sem, edgeC]) <;> rfl), ⟨(fun d hd => by rcases List.mem_append.1 hd with h | h; exact hg d h; simp only [List.mem_singleton] at h; subst h; exact hgt), by simp; omega, by simp; omega, by rw [List.getElem?_append_left hc]; exact he, by simp [hpl], by simp only; omega, ?_⟩, by simp only; omega⟩
        simp only
        rw [hrow, hm']; simp
end Go.Avl
namespace Go.Avl
open Go Go.Proofs.Try
set_option maxRecDepth 10000
set_option linter.unusedSimpArgs false

/-! ### Runs: tick by tick -/
abbrev Rep := Int × Int
def tick1 (x : Timed) (c : Cfg) (now : Int) (out : List Rep) : Cfg × List Rep :=
  if (timAt x c.1).1 = 0 then (c, out) else if c.2 + 1 = (timAt x c.1).1 then (((timAt x c.1).2.1, 0), out ++ [(now + 1, (timAt x c.1).2.2)]) else ((c.1, c.2 + 1), out)
def ticksP (x : Timed) : Nat → Cfg → Int → List Rep → Cfg × List Rep
  | 0, c, _, out => (c, out)
  | k + 1, c, now, out => ticksP x k (tick1 x c now out).1 (now + 1) (tick1 x c now out).2
def runP (x : Timed) : List Evt → Cfg → Int → List Rep → List Rep
  | [], _, _, out => out
  | e :: es, c, now, out =>
    if (stepR x.m (ticksP x e.1.toNat c now out).1.1 e.2).1 = -1 then (ticksP x e.1.toNat c now out).2 ++ [(now + e.1, (stepR x.m (ticksP x e.1.toNat c now out).1.1 e.2).2)]
    else runP x es ((stepR x.m (ticksP x e.1.toNat c now out).1.1 e.2).1, 0) (now + e.1) ((ticksP x e.1.toNat c now out).2 ++ [(now + e.1, (stepR x.m (ticksP x e.1.toNat c now out).1.1 e.2).2)])
theorem tick1_len (x : Timed) (c : Cfg) (now : Int) (out : List Rep) : out.length ≤ (tick1 x c now out).2.length := by
  unfold tick1; split; exact Nat.le_refl _; split <;> simp
theorem ticksP_len (x : Timed) : ∀ (k : Nat) (c : Cfg) (now : Int) (out : List Rep), out.length ≤ (ticksP x k c now out).2.length
  | 0, _, _, _ => Nat.le_refl _
  | k + 1, c, now, out => Nat.le_trans (tick1_len x c now out) (ticksP_len x k _ _ _)
theorem runP_len (x : Timed) : ∀ (es : List Evt) (c : Cfg) (now : Int) (out : List Rep), out.length ≤ (runP x es c now out).length
  | [], _, _, _ => Nat.le_refl _
  | e :: es, c, now, out => by
    have h1 := ticksP_len x e.1.toNat c now out
    simp only [runP]
    split
    · simp; omega
    · exact Nat.le_trans (by simp; omega) (runP_len x es _ _ _)
theorem tick1_good {x : Timed} (hv : ValidT x) {c : Cfg} (h : GoodC x c) (now : Int) (out : List Rep) : GoodC x (tick1 x c now out).1 := by
  have ht := timOk_cases (timAt_get hv h.st.1 h.st.2).2
  have hc := h.ck
  unfold tick1
  split
  · exact h
  · split
    · exact ⟨by simp only; omega, by simp⟩
    · exact ⟨h.st, by simp only; omega⟩
theorem ticksP_good {x : Timed} (hv : ValidT x) : ∀ (k : Nat) {c : Cfg} (_ : GoodC x c) (now : Int) (out : List Rep), GoodC x (ticksP x k c now out).1
  | 0, _, h, _, _ => h
  | k + 1, _, h, now, out => ticksP_good hv k (tick1_good hv h now out) _ _

/-! ### Runs: from timeout to timeout -/
def jumps (x : Timed) (fin : Int) : Nat → Int → Int → List Rep → Int × Int × List Rep
  | 0, s, en, out => (s, en, out)
  | n + 1, s, en, out => if 0 < (timAt x s).1 ∧ en + (timAt x s).1 ≤ fin then jumps x fin n (timAt x s).2.1 (en + (timAt x s).1) (out ++ [(en + (timAt x s).1, (timAt x s).2.2)]) else (s, en, out)
def runJ (x : Timed) : List Evt → Int → Int → Int → List Rep → List Rep
  | [], _, _, _, out => out
  | e :: es, s, en, now, out =>
    if (stepR x.m (jumps x (now + e.1) (now + e.1 - en).toNat s en out).1 e.2).1 < 0 then (jumps x (now + e.1) (now + e.1 - en).toNat s en out).2.2 ++ [(now + e.1, (stepR x.m (jumps x (now + e.1) (now + e.1 - en).toNat s en out).1 e.2).2)]
    else runJ x es (stepR x.m (jumps x (now + e.1) (now + e.1 - en).toNat s en out).1 e.2).1 (now + e.1) (now + e.1) ((jumps x (now + e.1) (now + e.1 - en).toNat s en out).2.2 ++ [(now + e.1, (stepR x.m (jumps x (now + e.1) (now + e.1 - en).toNat s en out).1 e.2).2)])

/-- More fuel than is wanted changes nothing. -/
theorem jumps_fuel {x : Timed} {fin : Int} : ∀ (n m : Nat) (s en : Int) (out : List Rep), (fin - en).toNat ≤ n → (fin - en).toNat ≤ m → jumps x fin n s en out = jumps x fin m s en out
  | 0, 0, _, _, _, _, _ => rfl
  | 0, m + 1, s, en, out, h1, _ => by
    simp only [jumps]; rw [if_neg (by omega)]
  | n + 1, 0, s, en, out, _, h2 => by
    simp only [jumps]; rw [if_neg (by omega)]
  | n + 1, m + 1, s, en, out, h1, h2 => by
    simp only [jumps]
    split
    · rename_i h
      exact jumps_fuel n m _ _ _ (by omega) (by omega)
    · rfl

/-- Where both stand at the same time. -/
def AtR (x : Timed) (c : Cfg) (s en now : Int) : Prop := c.1 = s ∧ (0 < (timAt x s).1 → c.2 = now - en ∧ c.2 < (timAt x s).1) ∧ en ≤ now
theorem ticks_jumps {x : Timed} (hv : ValidT x) : ∀ (k : Nat) {c : Cfg} {s en now : Int} (out : List Rep), GoodC x c → AtR x c s en now →
    (ticksP x k c now out).2 = (jumps x (now + k) (now + k - en).toNat s en out).2.2 ∧ AtR x (ticksP x k c now out).1 (jumps x (now + k) (now + k - en).toNat s en out).1 (jumps x (now + k) (now + k - en).toNat s en out).2.1 (now + k)
  | 0, c, s, en, now, out, hg, hr => by
    have hj : jumps x (now + (0 : Nat)) (now + (0 : Nat) - en).toNat s en out = (s, en, out) := by
      cases h : (now + ((0 : Nat) : Int) - en).toNat with
      | zero => rfl
      | succ n =>
        simp only [jumps]
        rw [if_neg]
        rintro ⟨h1, h2⟩
        have := hr.2.1 h1
        simp at h2; omega
    rw [hj]
    exact ⟨rfl, by simpa [ticksP] using hr⟩
  | k + 1, c, s, en, now, out, hg, hr => by
    obtain ⟨rfl, h2, h3⟩ := hr
    have ht := timOk_cases (timAt_get hv hg.st.1 hg.st.2).2
    have e1 : now + ((k + 1 : Nat) : Int) = now + 1 + (k : Nat) := by omega
    rw [e1]
    simp only [ticksP]
    have hg' := tick1_good hv hg now out
    by_cases h0 : (timAt x c.1).1 = 0
    · have ht1 : tick1 x c now out = (c, out) := if_pos h0
      rw [ht1] at hg' ⊢
      exact ticks_jumps hv k out hg ⟨rfl, fun h => by omega, by omega⟩
    · have hp := h2 (by omega)
      by_cases h1 : c.2 + 1 = (timAt x c.1).1
      · have ht1 : tick1 x c now out = (((timAt x c.1).2.1, 0), out ++ [(now + 1, (timAt x c.1).2.2)]) := by unfold tick1; rw [if_neg h0, if_pos h1]
        rw [ht1] at hg' ⊢
        have ih := ticks_jumps hv k (c := ((timAt x c.1).2.1, 0)) (s := (timAt x c.1).2.1) (en := now + 1) (now := now + 1) (out ++ [(now + 1, (timAt x c.1).2.2)]) hg' ⟨rfl, fun h => ⟨by simp, by simpa using h⟩, by omega⟩
        have hj : jumps x (now + 1 + (k : Nat)) (now + 1 + (k : Nat) - en).toNat c.1 en out = jumps x (now + 1 + (k : Nat)) (now + 1 + (k : Nat) - (now + 1)).toNat (timAt x c.1).2.1 (now + 1) (out ++ [(now + 1, (timAt x c.1).2.2)]) := by
          obtain ⟨n, hn⟩ : ∃ n, (now + 1 + (k : Nat) - en).toNat = n + 1 := ⟨(now + 1 + (k : Nat) - en).toNat - 1, by omega⟩
          rw [hn]
          simp only [jumps]
          have e2 : en + (timAt x c.1).1 = now + 1 := by omega
          rw [if_pos ⟨by omega, by omega⟩, e2]
          exact jumps_fuel _ _ _ _ _ (by omega) (by omega)
        rw [hj]; exact ih
      · have ht1 : tick1 x c now out = ((c.1, c.2 + 1), out) := by unfold tick1; rw [if_neg h0, if_neg h1]
        rw [ht1] at hg' ⊢
        exact ticks_jumps hv k (c := (c.1, c.2 + 1)) out hg' ⟨rfl, fun h => ⟨by simp only; omega, by simp only; omega⟩, by omega⟩
theorem runP_runJ {x : Timed} (hv : ValidT x) : ∀ (es : List Evt) {c : Cfg} {s en now : Int} (out : List Rep), GoodC x c → AtR x c s en now → (∀ e ∈ es, 0 ≤ e.1 ∧ 0 ≤ e.2 ∧ e.2 < x.m.ins) → runP x es c now out = runJ x es s en now out
  | [], _, _, _, _, _, _, _, _ => rfl
  | e :: es, c, s, en, now, out, hg, hr, he => by
    have h1 := he e List.mem_cons_self
    have hj := ticks_jumps hv e.1.toNat out hg hr
    have e1 : now + ((e.1.toNat : Nat) : Int) = now + e.1 := by omega
    rw [e1] at hj
    have hg2 := ticksP_good hv e.1.toNat hg now out
    simp only [runP, runJ]
    obtain ⟨j1, j2, _⟩ := hj
    rw [j1, j2]
    obtain ⟨_, d, _, _, h3, h4⟩ := stepR_get hv.m (s := (jumps x (now + e.1) (now + e.1 - en).toNat s en out).1) (a := e.2) (by rw [← j2]; exact (ticksP_good hv e.1.toNat hg now out).st.1) (by rw [← j2]; exact (ticksP_good hv e.1.toNat hg now out).st.2) ⟨h1.2.1, h1.2.2⟩
    rw [h3]
    unfold fitsR at h4
    simp at h4
    by_cases hd : d.1 = -1
    · rw [if_pos hd, if_pos (by omega)]
    · rw [if_neg hd, if_neg (by omega)]
      exact runP_runJ hv es _ ⟨by simp only; omega, by simp⟩ ⟨rfl, fun h => ⟨by simp, by simpa using h⟩, Int.le_refl _⟩ fun e he' => he e (List.mem_cons_of_mem _ he')
end Go.Avl
namespace Go.Avl
open Go Go.Proofs.Try
set_option maxRecDepth 10000
set_option linter.unusedSimpArgs false

def nilE (n : Int) : AV := .tu [.sl true [] .unk, .sc (.int .i64 n)]
def runA (x : Timed) (es : List Evt) : AV :=
  if checkT x ≠ 0 then nilE (checkT x)
  else if checkEvts x.m.ins es ≠ 0 then nilE (checkEvts x.m.ins es)
  else if (runP x es (0, 0) 0 []).length ≤ 4096 then .tu [.sl (runP x es (0, 0) 0 []).isEmpty ((runP x es (0, 0) 0 []).map edgeC) .full, .sc (.int .i64 0)]
  else nilE 3
theorem runA_noref (x : Timed) (es : List Evt) : (runA x es).noref = true := by unfold runA nilE; repeat (first | rfl | split)
theorem evts_all {n : Int} : ∀ {es : List Evt}, evts n es = 0 → ∀ e ∈ es, 0 ≤ e.1 ∧ e.1 ≤ 1024 ∧ 0 ≤ e.2 ∧ e.2 < n
  | [], _, e, he => by cases he
  | d :: es, h, e, he => by
    simp only [evts] at h
    split at h
    · contradiction
    · rename_i h1
      rcases List.mem_cons.1 he with rfl | he
      · unfold evtOk at h1
        simp only [ne_eq, Decidable.not_not] at h1
        split at h1
        · cases h1
        · split at h1
          · cases h1
          · split at h1
            · cases h1
            · omega
      · exact evts_all h e he

theorem run_is (x : Timed) (hr : ∀ r ∈ x.m.rows, r.2.length < 1000000) (htl : x.ts.length < 1000000) (nl : Bool) (es : List Evt) (cp : Cp) (hel : es.length < 1000000) : PureIs prog 11 [.ag x.cells, .sl nl (es.map edgeC) cp] (runA x es) := by
  refine PureIs.of (nv := 3) (hid := [4, 5, 6, 8, 9, 10, 11, 13, 14, 15, 16, 17, 18, 19, 23, 27, 28, 29, 30, 31, 34, 38, 42, 56, 57, 58, 59, 65, 73, 89, 93, 95]) func11 rfl (by kernel_rfl) (by simp [ntmps11]) fun _ => ?_
  rw [ntmps11, results11]
  refine EvC.seq (EvC.rg (by (simp only [go_sem, Timed.cells]) <;> rfl) (by simp) ?_)  -- R0
  refine EvC.frzB 0 (by (simp only [go_sem]) <;> rfl) ?_
  refine EvC.seq ?_
  apply EvC.seq  -- R1
  apply EvC.tr
  · apply Tr.run
    · (simp only [go_sem]) <;> rfl
    · simp
    apply Tr.cons
    · exact .call rfl rfl (by (simp only [go_sem]) <;> rfl) (by (simp only [go_sem]) <;> rfl) (by (simp only [go_sem]) <;> rfl) (by (simp only [go_sem]) <;> rfl) (by (simp only [go_sem]) <;> rfl) (checkT_is x hr htl)
    apply Tr.done
    · (simp only [go_sem]) <;> rfl
    · simp
  refine EvC.seq (EvC.rg (by (simp only [go_sem]) <;> rfl) (by simp) ?_)  -- R2
  refine EvC.cond (by (simp only [go_sem]) <;> rfl) (fun hc => ?_) (fun hc => ?_)
  · have hc : checkT x ≠ 0 := by simpa using hc
    refine EvC.seq (EvC.rg (by (simp only [go_sem]) <;> rfl) (by simp) ?_)  -- R3
    refine EvC.ret ⟨.inl rfl, _, (by (simp only [go_sem]) <;> rfl), ?_, runA_noref _ _⟩
    simp only [go_sem]
    rw [runA, if_pos hc]; rfl
  have hck : ¬ checkT x ≠ 0 := by simpa using hc
  clear hc
  have hv : ValidT x := .of (by simpa using hck)
  refine EvC.skip ?_
  refine EvC.seq ?_
  refine EvC.seq (EvC.rg (by (simp only [go_sem]) <;> rfl) (by simp) ?_)  -- R4
  refine EvC.cond (by (simp only [go_sem]) <;> rfl) (fun hc => ?_) (fun hc => ?_)
  · have hc : 256 < (es.length : Int) := by simpa using hc
    refine EvC.seq (EvC.rg (by (simp only [go_sem]) <;> rfl) (by simp) ?_)  -- R5
    refine EvC.ret ⟨.inl rfl, _, (by (simp only [go_sem]) <;> rfl), ?_, runA_noref _ _⟩
    simp only [go_sem]
    have : checkEvts x.m.ins es = 3 := if_pos hc
    rw [runA, if_neg hck, this, if_pos (by decide)]; rfl
  have hl256 : ¬ 256 < (es.length : Int) := by simpa using hc
  clear hc
  have hce : checkEvts x.m.ins es = evts x.m.ins es := if_neg hl256
  refine EvC.skip ?_
  refine EvC.seq ?_
  refine EvC.seq (EvC.rg (by (simp only [go_sem]) <;> rfl) (by simp) ?_)  -- R6
  refine EvC.block ?_  -- 0
  refine EvC.loopS (σ := Nat) (fun i => ⟨[(1, .sl nl (es.map edgeC) cp), (2, .ia x.cells), (28, .sl nl (es.map edgeC) cp), (29, .sc (.int .i64 es.length)), (30, .sc (.int .i64 i))], [], [], 0⟩) (fun i => es.length - i)
    (fun i => i ≤ es.length ∧ evts x.m.ins es = evts x.m.ins (es.drop i)) [1, 2, 28, 29, 30] 0 ?_ ?_
  · refine ⟨[], 0, rfl, (by (simp only [go_sem]) <;> rfl), Nat.zero_le _, rfl⟩
  rintro i ⟨h1, h2⟩
  refine EvC.seq (EvC.rg (by (simp only [go_sem]) <;> rfl) (by simp) ?_)  -- R7
  refine EvC.seq ?_
  refine EvC.cond (by (simp only [go_sem]) <;> rfl) (fun hc => ?_) (fun hc => ?_)
  · have hi : i < es.length := by simpa using hc
    have he : es[i]? = some es[i] := List.getElem?_eq_getElem hi
    have hd : es.drop i = es[i] :: es.drop (i + 1) := List.drop_eq_getElem_cons hi
    generalize es[i] = e at he hd
    rw [hd] at h2
    have hbad : ∀ n, evtOk x.m.ins e = n → n ≠ 0 → runA x es = nilE n := fun n hn h0 => by
      have : checkEvts x.m.ins es = n := by rw [hce, h2, evts, if_pos (by omega), hn]
      rw [runA, if_neg hck, this, if_pos h0]
    refine EvC.skip ?_
    refine EvC.seq ?_
    refine EvC.block ?_  -- 1
    refine EvC.seq (EvC.rg (by (simp only [go_sem, he, edgeC]) <;> rfl) (by simp) ?_)  -- R8
    refine EvC.block ?_  -- 2
    refine EvC.seq (EvC.rg (by (simp only [go_sem]) <;> rfl) (by simp) ?_)  -- R9
    refine EvC.cond (by (simp only [go_sem]) <;> rfl) (fun hc => ?_) (fun hc => ?_)
    · have hc : e.1 < 0 := by simpa using hc
      refine EvC.seq (EvC.rg (by (simp only [go_sem]) <;> rfl) (by simp) ?_)  -- R10
      refine EvC.ret ⟨.inl rfl, _, (by (simp only [go_sem]) <;> rfl), ?_, runA_noref _ _⟩
      simp only [go_sem]
      rw [hbad 1 (by unfold evtOk; rw [if_pos hc]) (by decide)]; rfl
    have hc1 : ¬ e.1 < 0 := by simpa using hc
    refine EvC.seq (EvC.rg (by (simp only [go_sem]) <;> rfl) (by simp) ?_)  -- R11
    refine EvC.cond (by (simp only [go_sem]) <;> rfl) (fun hc => ?_) (fun hc => ?_)
    · have hc : 1024 < e.1 := by simpa using hc
      refine EvC.seq (EvC.rg (by (simp only [go_sem]) <;> rfl) (by simp) ?_)  -- R12
      refine EvC.ret ⟨.inl rfl, _, (by (simp only [go_sem]) <;> rfl), ?_, runA_noref _ _⟩
      simp only [go_sem]
      rw [hbad 3 (by unfold evtOk; rw [if_neg hc1, if_pos hc]) (by decide)]; rfl
    have hc2 : ¬ 1024 < e.1 := by simpa using hc
    apply EvC.seq  -- R13
    apply EvC.trd
    · (simp only [go_sem, Timed.cells]) <;> rfl
    · simp
    refine EvC.cond (by (simp only [go_sem]) <;> rfl) (fun hc => ?_) (fun hc => ?_)
    · have hc : e.2 < 0 ∨ x.m.ins ≤ e.2 := by by_cases h : e.2 < 0 <;> simp_all
      refine EvC.seq (EvC.rg (by (simp only [go_sem]) <;> rfl) (by simp) ?_)  -- R14
      refine EvC.ret ⟨.inl rfl, _, (by (simp only [go_sem]) <;> rfl), ?_, runA_noref _ _⟩
      simp only [go_sem]
      rw [hbad 1 (by unfold evtOk; rw [if_neg hc1, if_neg hc2, if_pos hc]) (by decide)]; rfl
    have hc3 : ¬ (e.2 < 0 ∨ x.m.ins ≤ e.2) := by by_cases h : e.2 < 0 <;> simp_all
    refine EvC.skip ?_
    refine EvC.rg (by (simp only [go_sem]) <;> rfl) (inI64_of (by omega) (by omega)) ?_  -- R15
    refine ⟨[], i + 1, rfl, (by (simp only [go_sem, Timed.cells]) <;> rfl), ⟨by omega, ?_⟩, by omega⟩
    rw [h2, evts, if_neg]
    unfold evtOk
    rw [if_neg hc1, if_neg hc2, if_neg hc3]; simp
  refine EvC.exit ?_  -- 0
  have hi : ¬ i < es.length := by simpa using hc
  rw [List.drop_of_length_le (by omega)] at h2
  have hev : checkEvts x.m.ins es = 0 := by rw [hce, h2]; rfl
  have hall := evts_all (hce ▸ hev)
  clear h1 h2 hc hi
  obtain ⟨T, hT⟩ : ∃ T, T = runP x es (0, 0) 0 [] := ⟨_, rfl⟩
  have hres : runA x es = if T.length ≤ 4096 then .tu [.sl T.isEmpty (T.map edgeC) .full, .sc (.int .i64 0)] else nilE 3 := by
    rw [runA, if_neg hck, hev, ← hT]; rfl
  refine EvC.seq (EvC.rg (by (simp only [go_sem]) <;> rfl) (by simp) ?_)  -- R16
  refine EvC.seq (EvC.rg (by (simp only [go_sem]) <;> rfl) (by simp) ?_)  -- R17
  refine EvC.seq ?_
  refine EvC.seq (EvC.rg (by (simp only [go_sem]) <;> rfl) (by simp) ?_)  -- R18
  refine EvC.block ?_  -- 3
  refine EvC.loopS (σ := Nat × Cfg × Int × List Rep) (fun g => ⟨[(2, .ia x.cells), (9, .tl 0 g.2.2.2.length g.2.2.2.isEmpty), (10, .rf 1 0), (11, .sc (.int .i64 g.2.2.1)), (56, .sl nl (es.map edgeC) cp), (57, .sc (.int .i64 es.length)), (58, .sc (.int .i64 g.1))], [],
      [(0, .arr 2 (g.2.2.2.map edgeC) true), (1, .cells (edgeC g.2.1))], 2⟩) (fun g => es.length - g.1)
    (fun g => g.1 ≤ es.length ∧ GoodC x g.2.1 ∧ 0 ≤ g.2.2.1 ∧ g.2.2.1 ≤ 1024 * g.1 ∧ g.2.2.2.length ≤ 4096 ∧ T = runP x (es.drop g.1) g.2.1 g.2.2.1 g.2.2.2) [2, 9, 10, 11, 56, 57, 58] 2 ?_ ?_
  · refine ⟨[(1, 0), (3, 1)], (0, (0, 0), 0, []), rfl, (by (simp only [go_sem, edgeC]) <;> rfl), Nat.zero_le _, .zero hv, by simp, by simp, by simp, hT⟩
  rintro ⟨j, c0, now0, out0⟩ ⟨hj, hg0, hn0, hn1, ho0, hT0⟩
  simp only at hj hg0 hn0 hn1 ho0 hT0
  refine EvC.seq (EvC.rg (by (simp only [go_sem]) <;> rfl) (by simp) ?_)  -- R19
  refine EvC.seq ?_
  refine EvC.cond (by (simp only [go_sem]) <;> rfl) (fun hc => ?_) (fun hc => ?_)
  rotate_left
  · refine EvC.exit ?_  -- 3
    have hc : ¬ j < es.length := by simpa using hc
    rw [List.drop_of_length_le (by omega), runP] at hT0
    refine EvC.frz 0 (by (simp only [go_sem]) <;> rfl) ?_
    apply EvC.seq  -- R37
    apply EvC.tr
    · apply Tr.run
      · (simp only [go_sem]) <;> rfl
      · simp
      apply Tr.cons
      · exact .call rfl rfl (by (simp only [go_sem]) <;> rfl) (by (simp only [go_sem]) <;> rfl) (by (simp only [go_sem]) <;> rfl) (by (simp only [go_sem]) <;> rfl) (by (simp only [go_sem]) <;> rfl) (clip_is out0.isEmpty (out0.map edgeC) .unk (by simp [edgeC]))
      apply Tr.done
      · (simp only [go_sem]) <;> rfl
      · simp
    refine EvC.ret ⟨.inl rfl, _, (by (simp only [go_sem]) <;> rfl), ?_, runA_noref _ _⟩
    simp only [go_sem]
    rw [hres, hT0, if_pos ho0]
  have hc : j < es.length := by simpa using hc
  have he : es[j]? = some es[j] := List.getElem?_eq_getElem hc
  have hd : es.drop j = es[j] :: es.drop (j + 1) := List.drop_eq_getElem_cons hc
  have hev' := hall _ (List.getElem_mem hc)
  generalize es[j] = e at he hd hev'
  rw [hd, runP] at hT0
  obtain ⟨q, hq⟩ : ∃ q, q = ticksP x e.1.toNat c0 now0 out0 := ⟨_, rfl⟩
  rw [← hq] at hT0
  refine EvC.skip ?_
  refine EvC.seq ?_
  refine EvC.block ?_  -- 4
  refine EvC.seq (EvC.rg (by (simp only [go_sem, he, edgeC]) <;> rfl) (by simp) ?_)  -- R20
  refine EvC.seq (EvC.rg (by (simp only [go_sem]) <;> rfl) (by simp) ?_)  -- R21
  refine EvC.block ?_  -- 5
  refine EvC.loopS (σ := Nat × Cfg × Int × List Rep) (fun g => ⟨[(2, .ia x.cells), (9, .tl 0 g.2.2.2.length g.2.2.2.isEmpty), (10, .rf 1 0), (11, .sc (.int .i64 g.2.2.1)), (13, .rf 2 0), (14, .sc (.int .i64 g.1)), (56, .sl nl (es.map edgeC) cp), (57, .sc (.int .i64 es.length)), (58, .sc (.int .i64 j))], [],
      [(0, .arr 2 (g.2.2.2.map edgeC) true), (1, .cells (edgeC g.2.1)), (2, .cells (edgeC e))], 3⟩) (fun g => 2000 - g.1)
    (fun g => g.1 ≤ e.1.toNat + 1 ∧ (g.1 ≤ e.1.toNat → GoodC x g.2.1 ∧ 0 ≤ g.2.2.1 ∧ g.2.2.1 = now0 + g.1 ∧ g.2.2.2.length ≤ 4096 ∧ q = ticksP x (e.1.toNat - g.1) g.2.1 g.2.2.1 g.2.2.2) ∧
      (g.1 = e.1.toNat + 1 → GoodC x g.2.1 ∧ 0 ≤ g.2.2.1 ∧ g.2.2.1 = now0 + e.1 ∧ g.2.2.2.length ≤ 4096 ∧ T = runP x (es.drop (j + 1)) g.2.1 g.2.2.1 g.2.2.2)) [2, 9, 10, 11, 13, 14, 56, 57, 58] 3 ?_ ?_
  · refine ⟨[(0, 0), (1, 1), (5, 2)], (0, c0, now0, out0), rfl, (by (simp only [go_sem, edgeC]) <;> rfl), Nat.zero_le _, fun _ => ⟨hg0, hn0, by simp, ho0, hq⟩, fun h => by simp only at h; omega⟩
  clear hg0 hn0 ho0
  rintro ⟨n, c, now, out⟩ ⟨h1, h2, h3⟩
  simp only at h1 h2 h3
  refine EvC.seq ?_
  refine EvC.seq (EvC.rg (by (simp only [go_sem, edgeC]) <;> rfl) (by simp) ?_)  -- R22
  refine EvC.cond (by (simp only [go_sem]) <;> rfl) (fun hc => ?_) (fun hc => ?_)
  rotate_left
  · refine EvC.exit ?_  -- 5
    have hc : e.1 < (n : Int) := by simpa using hc
    obtain ⟨k1, k2, k3, k4, k5⟩ := h3 (by omega)
    refine EvC.rg (by (simp only [go_sem]) <;> rfl) (inI64_of (by omega) (by omega)) ?_  -- R36
    exact ⟨[(0, 0), (1, 1)], (j + 1, c, now, out), rfl, (by (simp only [go_sem, edgeC]) <;> rfl), ⟨by simp only; omega, k1, k2, by simp only; omega, k4, k5⟩, by simp only; omega⟩
  have hc : (n : Int) ≤ e.1 := by simpa using hc
  clear h3
  obtain ⟨hg, hn0, hnow, ho, hq'⟩ := h2 (by omega)
  clear h2
  have hIn : inI64 ((n : Int) + 1) = true := inI64_of (by omega) (by omega)
  have hIw : inI64 (now + 1) = true := inI64_of (by omega) (by omega)
  have hst := hg.st
  obtain ⟨t1, t2⟩ := timAt_get hv hst.1 hst.2
  have htc := timOk_cases t2
  have hck0 := hg.ck
  have hckc := hg.clock hv
  refine EvC.skip ?_
  refine EvC.seq ?_
  refine EvC.block ?_  -- 6
  refine EvC.seq (EvC.rg (by (simp only [go_sem]) <;> rfl) (by simp) ?_)  -- R24
  refine EvC.seq ?_
  refine EvC.seq (EvC.rg (by (simp only [go_sem]) <;> rfl) (by simp) ?_)  -- R25
  refine EvC.cond (by (simp only [go_sem]) <;> rfl) (fun hc1 => ?_) (fun hc1 => ?_)
  · -- the input
    have hc1 : (n : Int) = e.1 := by simpa using hc1
    have hn : e.1.toNat - n = 0 := by omega
    rw [hn, ticksP] at hq'
    rw [hq'] at hT0
    simp only at hT0
    obtain ⟨r, d, d1, d2, d3, d4⟩ := stepR_get hv.m hst.1 hst.2 ⟨hev'.2.2.1, hev'.2.2.2⟩
    rw [d3] at hT0
    have hnow' : now0 + e.1 = now := by omega
    rw [hnow'] at hT0
    have hdo := doIn_is x c e.2 r d hst.1 hev'.2.2.1 d1 d2
    refine EvC.rg (by (simp only [go_sem]) <;> rfl) (by simp) ?_  -- R26
    apply EvC.seq  -- R28
    apply EvC.tr
    · apply Tr.run
      · (simp only [go_sem, Timed.cells, edgeC]) <;> rfl
      · simp
      apply Tr.cons
      · exact .call rfl rfl (by (simp only [go_sem]) <;> rfl) (by (simp only [go_sem]) <;> rfl) (by (simp only [go_sem]) <;> rfl) (by (simp only [go_sem]) <;> rfl) (by (simp only [go_sem]) <;> rfl) (by simpa [Timed.cells, edgeA] using hdo)
      apply Tr.done
      · (simp only [go_sem, doA, doIn, edgeA]) <;> rfl
      · simp
    refine EvC.seq ?_
    refine EvC.seq (EvC.rg (by (simp only [go_sem]) <;> rfl) (by simp) ?_)  -- R29
    refine EvC.cond_false (by (simp only [go_sem]) <;> rfl) ?_
    refine EvC.skip ?_
    refine EvC.seq ?_
    refine EvC.seq (EvC.rg (by (simp only [go_sem, List.length_map]) <;> rfl) (by simp) ?_)  -- R31
    refine EvC.cond (by (simp only [go_sem]) <;> rfl) (fun hm => ?_) (fun hm => ?_)
    · have hm : out.length = 4096 := by
        have : (out.length : Int) = 4096 := by simpa using hm
        omega
      refine EvC.seq (EvC.rg (by (simp only [go_sem]) <;> rfl) (by simp) ?_)  -- R32
      refine EvC.ret ⟨.inl rfl, _, (by (simp only [go_sem]) <;> rfl), ?_, runA_noref _ _⟩
      simp only [go_sem]
      have : ¬ T.length ≤ 4096 := by
        rw [hT0]
        split
        · simp; omega
        · have := runP_len x (es.drop (j + 1)) (d.1, 0) now (out ++ [(now, d.2)])
          simp only [List.length_append, List.length_cons, List.length_nil] at this
          omega
      rw [hres, if_neg this]; rfl
    have hm : ¬ out.length = 4096 := by
      have : ¬ (out.length : Int) = 4096 := by simpa using hm
      omega
    refine EvC.skip ?_
    refine EvC.seq ?_
    refine EvC.seq (EvC.rg (by (simp only [go_sem]) <;> rfl) (by simp) ?_)  -- R33
    refine EvC.cond (by (simp only [go_sem]) <;> rfl) (fun hu => ?_) (fun hu => ?_)
    · have hu : d.1 = -1 := by simpa using hu
      have hu2 : d.2 = -1 := by
        unfold fitsR at d4; simp at d4; omega
      rw [if_pos hu, hu2] at hT0
      apply EvC.seq  -- R34
      apply EvC.tr
      · apply Tr.run
        · (simp only [go_sem]) <;> rfl
        · simp [room_eq, AV.norefs, AV.noref]; omega
        apply Tr.cons
        · exact .call rfl rfl (by (simp only [go_sem]) <;> rfl) (by (simp only [go_sem]) <;> rfl) (by (simp only [go_sem]) <;> rfl) (by (simp only [go_sem]) <;> rfl) (by (simp only [go_sem]) <;> rfl) (clip_is false ((out ++ [(now, -1)]).map edgeC) .unk (by simp [edgeC]))
        apply Tr.done
        · (simp only [go_sem]) <;> rfl
        · simp
      refine EvC.ret ⟨.inl rfl, _, (by (simp only [go_sem]) <;> rfl), ?_, runA_noref _ _⟩
      simp only [go_sem]
      rw [hres, hT0, if_pos (by simp; omega)]
      simp
    have hu : ¬ d.1 = -1 := by simpa using hu
    rw [if_neg hu] at hT0
    have hgd : GoodC x (d.1, 0) := by
      unfold fitsR at d4; simp at d4
      exact ⟨by simp only; omega, by simp⟩
    refine EvC.skip ?_
    apply EvC.drd mixed  -- R35
    · (simp only [go_sem]) <;> rfl
    · simp [room_eq, AV.norefs, AV.noref]; omega
    · kernel_rfl
    refine EvC.rg (by (simp only [go_sem]) <;> rfl) hIn ?_  -- R23
    exact ⟨[(0, 0), (1, 1), (2, 2)], (n + 1, (d.1, 0), now, out ++ [(now, d.2)]), rfl, (by (simp only [go_sem, edgeC]) <;> rfl), ⟨by simp only; omega, fun h => by simp only at h; omega, fun _ => ⟨hgd, hn0, by simp only; omega, by simp; omega, hT0⟩⟩, by simp only; omega⟩
  -- a tick
  have hc1 : ¬ (n : Int) = e.1 := by simpa using hc1
  obtain ⟨m, hm⟩ : ∃ m, e.1.toNat - n = m + 1 := ⟨e.1.toNat - n - 1, by omega⟩
  have hm1 : e.1.toNat - (n + 1) = m := by omega
  rw [hm, ticksP] at hq'
  have hg1 := tick1_good hv hg now out
  have hdo := doTick_is x c (timAt x c.1) hst.1 t1 (by omega)
  unfold doTick at hdo
  refine EvC.rg (by (simp only [go_sem]) <;> rfl) hIw ?_  -- R27
  by_cases k0 : (timAt x c.1).1 = 0
  · have ht1 : tick1 x c now out = (c, out) := if_pos k0
    rw [if_pos k0] at hdo
    apply EvC.seq  -- R28
    apply EvC.tr
    · apply Tr.run
      · (simp only [go_sem, Timed.cells, edgeC]) <;> rfl
      · simp
      apply Tr.cons
      · exact .call rfl rfl (by (simp only [go_sem]) <;> rfl) (by (simp only [go_sem]) <;> rfl) (by (simp only [go_sem]) <;> rfl) (by (simp only [go_sem]) <;> rfl) (by (simp only [go_sem]) <;> rfl) (by simpa [Timed.cells, edgeA] using hdo)
      apply Tr.done
      · (simp only [go_sem, doA, edgeA]) <;> rfl
      · simp
    refine EvC.seq ?_
    refine EvC.seq (EvC.rg (by (simp only [go_sem]) <;> rfl) (by simp) ?_)  -- R29
    refine EvC.cond_true (by (simp only [go_sem]) <;> rfl) ?_
    refine EvC.seq (EvC.rg (by (simp only [go_sem]) <;> rfl) (by simp) ?_)  -- R30
    refine EvC.exit ?_  -- 6
    refine EvC.rg (by (simp only [go_sem]) <;> rfl) hIn ?_  -- R23
    exact ⟨[(0, 0), (1, 1), (2, 2)], (n + 1, (c), now + 1, out), rfl, (by (simp only [go_sem, edgeC]) <;> rfl), ⟨by simp only; omega, fun _ => ⟨(by rw [ht1] at hg1; exact hg1), by simp only; omega, by simp only; omega, ho, by rw [hm1, hq', ht1]⟩, fun h => by simp only at h; omega⟩, by simp only; omega⟩
  rw [if_neg k0] at hdo
  by_cases k1 : c.2 + 1 = (timAt x c.1).1
  · have ht1 : tick1 x c now out = (((timAt x c.1).2.1, 0), out ++ [(now + 1, (timAt x c.1).2.2)]) := by unfold tick1; rw [if_neg k0, if_pos k1]
    rw [if_pos k1] at hdo
    apply EvC.seq  -- R28
    apply EvC.tr
    · apply Tr.run
      · (simp only [go_sem, Timed.cells, edgeC]) <;> rfl
      · simp
      apply Tr.cons
      · exact .call rfl rfl (by (simp only [go_sem]) <;> rfl) (by (simp only [go_sem]) <;> rfl) (by (simp only [go_sem]) <;> rfl) (by (simp only [go_sem]) <;> rfl) (by (simp only [go_sem]) <;> rfl) (by simpa [Timed.cells, edgeA] using hdo)
      apply Tr.done
      · (simp only [go_sem, doA, edgeA]) <;> rfl
      · simp
    refine EvC.seq ?_
    refine EvC.seq (EvC.rg (by (simp only [go_sem]) <;> rfl) (by simp) ?_)  -- R29
    refine EvC.cond_false (by (simp only [go_sem]) <;> rfl) ?_
    refine EvC.skip ?_
    refine EvC.seq ?_
    refine EvC.seq (EvC.rg (by (simp only [go_sem, List.length_map]) <;> rfl) (by simp) ?_)  -- R31
    refine EvC.cond (by (simp only [go_sem]) <;> rfl) (fun hm => ?_) (fun hm => ?_)
    · have hm : out.length = 4096 := by
        have : (out.length : Int) = 4096 := by simpa using hm
        omega
      refine EvC.seq (EvC.rg (by (simp only [go_sem]) <;> rfl) (by simp) ?_)  -- R32
      refine EvC.ret ⟨.inl rfl, _, (by (simp only [go_sem]) <;> rfl), ?_, runA_noref _ _⟩
      simp only [go_sem]
      have : ¬ T.length ≤ 4096 := by
        have h1 := ticksP_len x m (tick1 x c now out).1 (now + 1) (tick1 x c now out).2
        rw [← hq', ht1] at h1
        simp only [List.length_append, List.length_cons, List.length_nil] at h1
        rw [hT0]
        split
        · simp; omega
        · have := runP_len x (es.drop (j + 1)) ((stepR x.m q.1.1 e.2).1, 0) (now0 + e.1) (q.2 ++ [(now0 + e.1, (stepR x.m q.1.1 e.2).2)])
          simp only [List.length_append, List.length_cons, List.length_nil] at this
          omega
      rw [hres, if_neg this]; rfl
    have hm : ¬ out.length = 4096 := by
      have : ¬ (out.length : Int) = 4096 := by simpa using hm
      omega
    refine EvC.skip ?_
    refine EvC.seq ?_
    refine EvC.seq (EvC.rg (by (simp only [go_sem]) <;> rfl) (by simp) ?_)  -- R33
    refine EvC.cond_false (by (simp only [go_sem]) <;> rfl) ?_
    refine EvC.skip ?_
    apply EvC.drd mixed  -- R35
    · (simp only [go_sem]) <;> rfl
    · simp [room_eq, AV.norefs, AV.noref]; omega
    · kernel_rfl
    refine EvC.rg (by (simp only [go_sem]) <;> rfl) hIn ?_  -- R23
    exact ⟨[(0, 0), (1, 1), (2, 2)], (n + 1, ((timAt x c.1).2.1, 0), now + 1, out ++ [(now + 1, (timAt x c.1).2.2)]), rfl, (by (simp only [go_sem, edgeC]) <;> rfl), ⟨by simp only; omega, fun _ => ⟨(by rw [ht1] at hg1; exact hg1), by simp only; omega, by simp only; omega, by simp; omega, by rw [hm1, hq', ht1]⟩, fun h => by simp only at h; omega⟩, by simp only; omega⟩
  · have ht1 : tick1 x c now out = ((c.1, c.2 + 1), out) := by unfold tick1; rw [if_neg k0, if_neg k1]
    rw [if_neg k1] at hdo
    apply EvC.seq  -- R28
    apply EvC.tr
    · apply Tr.run
      · (simp only [go_sem, Timed.cells, edgeC]) <;> rfl
      · simp
      apply Tr.cons
      · exact .call rfl rfl (by (simp only [go_sem]) <;> rfl) (by (simp only [go_sem]) <;> rfl) (by (simp only [go_sem]) <;> rfl) (by (simp only [go_sem]) <;> rfl) (by (simp only [go_sem]) <;> rfl) (by simpa [Timed.cells, edgeA] using hdo)
      apply Tr.done
      · (simp only [go_sem, doA, edgeA]) <;> rfl
      · simp
    refine EvC.seq ?_
    refine EvC.seq (EvC.rg (by (simp only [go_sem]) <;> rfl) (by simp) ?_)  -- R29
    refine EvC.cond_true (by (simp only [go_sem]) <;> rfl) ?_
    refine EvC.seq (EvC.rg (by (simp only [go_sem]) <;> rfl) (by simp) ?_)  -- R30
    refine EvC.exit ?_  -- 6
    refine EvC.rg (by (simp only [go_sem]) <;> rfl) hIn ?_  -- R23
    exact ⟨[(0, 0), (1, 1), (2, 2)], (n + 1, (c.1, c.2 + 1), now + 1, out), rfl, (by (simp only [go_sem, edgeC]) <;> rfl), ⟨by simp only; omega, fun _ => ⟨(by rw [ht1] at hg1; exact hg1), by simp only; omega, by simp only; omega, ho, by rw [hm1, hq', ht1]⟩, fun h => by simp only at h; omega⟩, by simp only; omega⟩
end Go.Avl
