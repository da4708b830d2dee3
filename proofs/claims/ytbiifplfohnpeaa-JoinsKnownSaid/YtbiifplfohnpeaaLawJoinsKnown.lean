/-
  Lemmas.
  Lemmas.
  Lemmas.
  Lemmas.
  Lemmas.
  Lemmas.
  Lemmas.
  JoinsKnown returns true at every input, and each argument reads behind the call as it read before.
  Conditions: those of the given row alone (no others).
-/
import Derived.Test.YtbiifplfohnpeaaPart8
set_option linter.unusedSimpArgs false
set_option linter.unusedVariables false
set_option linter.unnecessarySimpa false
set_option linter.deprecated false
namespace Go.Avl
open Go Go.Proofs.Try
set_option maxRecDepth 10000
set_option linter.unusedSimpArgs false

/-! ### Filled machines -/
theorem none_iff {m : Mach} (hv : Valid m) {s i : Nat} (hs : s < m.rows.length) (hi : (i : Int) < m.ins) : isNone (eAt m s i) = true ↔ (eAt m s i).1 < 0 := by
  obtain ⟨r, _, _, h⟩ := eAt_fit hv hs hi
  unfold isNone at h ⊢
  rcases h with h | h
  · simp only [Bool.and_eq_true, decide_eq_true_eq] at h
    simp [h.1, h.2]
  · have : ¬ (eAt m s i).1 = -1 := by omega
    simp [this]; omega
def toF (n : Nat) (way : Int) (s : Nat) : Int := if way = 1 then (n : Int) else s
def fillF (m : Mach) (way out : Int) : Nat → Nat → Int × Int := fun s i => if s < m.rows.length then (if isNone (eAt m s i) = true then (toF m.rows.length way s, out) else eAt m s i) else ((m.rows.length : Int), out)
def fillN (m : Mach) (N : Nat) (way : Int) : Nat := if way = 1 ∧ compD m N = false then m.rows.length + 1 else m.rows.length
def fillM (m : Mach) (N : Nat) (way out : Int) : Mach := ⟨m.ins, m.outs, false, (List.range (fillN m N way)).map fun s => (false, (List.range N).map (fillF m way out s))⟩
section
variable {m : Mach} {N : Nat} {way out : Int}
theorem fillF_lt {s : Nat} (hs : s < m.rows.length) (i : Nat) : fillF m way out s i = if isNone (eAt m s i) = true then (toF m.rows.length way s, out) else eAt m s i := if_pos hs
theorem fillR_F (to : Nat → Int) (h : ∀ s i, s < m.rows.length → i < N → isNone (eAt m s i) = true → to s = toF m.rows.length way s) : fillR m m.rows.length N to out = (List.range m.rows.length).map fun s => (false, (List.range N).map (fillF m way out s)) := by
  refine List.map_congr_left fun s hs => ?_
  have hs := List.mem_range.1 hs
  congr 1
  refine List.map_congr_left fun i hi => ?_
  rw [fillF_lt hs]
  by_cases hn : isNone (eAt m s i) = true
  · rw [if_pos hn, if_pos hn, h s i hs (List.mem_range.1 hi) hn]
  · rw [if_neg hn, if_neg hn]
theorem fill_res (hv : Valid m) (hN : m.ins = (N : Int)) (hl : m.rows.length ≤ 6) (hway : way = 0 ∨ way = 1) (ho : 0 ≤ out ∧ out < m.outs) : fillA m way out = .tu [.ag (fillM m N way out).cellsF, .sc (.int .i64 0)] := by
  have hNN : m.ins.toNat = N := by omega
  have hc := comp_compD hv hN
  rw [fillA, if_neg (by simp [hv.check]), if_neg (by omega), hNN]
  rcases hway with rfl | rfl
  · rw [if_pos rfl, loopsA, fillR_F (way := 0) (fun s : Nat => (s : Int)) (fun s i _ _ _ => by simp [toF])]
    have hn : fillN m N 0 = m.rows.length := by simp [fillN]
    simp only [fillM, hn, Mach.cellsF]
  · rw [if_neg (by decide), sinksA, if_neg (by omega), sinkRows, ← hc]
    by_cases hx : compD m N = true
    · have hn : fillN m N 1 = m.rows.length := by simp [fillN, hx]
      rw [if_pos hx, fillR_F (way := 1) _ fun s i hs hi hn => ?_]
      · simp only [fillM, hn, Mach.cellsF]
      · rw [hc, comp_iff] at hx
        rw [hx s i hs hi] at hn; cases hn
    · have hx' : compD m N = false := by simpa using hx
      have hn : fillN m N 1 = m.rows.length + 1 := by simp [fillN, hx']
      rw [if_neg hx, fillR_F (way := 1) _ fun s i hs hi hn => by simp [toF]]
      have hlast : (List.range N).map (fillF m 1 out m.rows.length) = List.replicate N ((m.rows.length : Int), out) := by
        rw [List.eq_replicate_iff]
        refine ⟨by simp, fun b hb => ?_⟩
        obtain ⟨i, _, rfl⟩ := List.mem_map.1 hb
        simp [fillF]
      simp only [fillM, hn, Mach.cellsF, List.range_succ, List.map_append, List.map_cons, List.map_nil, hlast]
theorem fillN_le (m : Mach) (N : Nat) (way : Int) : m.rows.length ≤ fillN m N way ∧ fillN m N way ≤ m.rows.length + 1 := by unfold fillN; split <;> omega
theorem fillF_ok (hv : Valid m) (hN : m.ins = (N : Int)) (hway : way = 0 ∨ way = 1) (ho : 0 ≤ out ∧ out < m.outs) {s i : Nat} (hs : s < fillN m N way) (hi : i < N) : 0 ≤ (fillF m way out s i).1 ∧ (fillF m way out s i).1 < fillN m N way ∧ 0 ≤ (fillF m way out s i).2 ∧ (fillF m way out s i).2 < m.outs := by
  have hle := fillN_le m N way
  by_cases hsl : s < m.rows.length
  · rw [fillF_lt hsl]
    by_cases hn : isNone (eAt m s i) = true
    · rw [if_pos hn]
      rcases hway with rfl | rfl
      · simp [toF]; omega
      · have hx : compD m N = false := by
          rw [Bool.eq_false_iff]
          intro h
          rw [comp_compD hv hN, comp_iff] at h
          rw [h s i hsl hi] at hn; cases hn
        have : fillN m N 1 = m.rows.length + 1 := by simp [fillN, hx]
        simp [toF]; omega
    · rw [if_neg hn]
      obtain ⟨r, _, _, h⟩ := eAt_fit hv hsl (i := i) (by omega)
      have := h.resolve_left hn
      omega
  · unfold fillF
    rw [if_neg hsl]
    simp only; omega
theorem fillM_len (m : Mach) (N : Nat) (way out : Int) : (fillM m N way out).rows.length = fillN m N way := by simp [fillM]
theorem fillM_valid (hv : Valid m) (hN : m.ins = (N : Int)) (hl : m.rows.length ≤ 6) (hway : way = 0 ∨ way = 1) (ho : 0 ≤ out ∧ out < m.outs) : Valid (fillM m N way out) := by
  have := fillN_le m N way
  have := hv.rows
  have hi := hv.ins
  exact valid_tab hN (by omega) hv.outs (by omega) fun s i hs hi => .inr (fillF_ok hv hN hway ho hs hi)
theorem fillM_comp (hv : Valid m) (hN : m.ins = (N : Int)) (hway : way = 0 ∨ way = 1) (ho : 0 ≤ out ∧ out < m.outs) : compD (fillM m N way out) N = true := by
  rw [compD_iff]
  intro s i hs hi
  rw [fillM_len] at hs
  rw [fillM, eAt_tab hs hi]
  exact (fillF_ok hv hN hway ho hs hi).1

/-! ### The law's own filling -/
def feF (m : Mach) (N : Nat) (way out : Int) (s i : Nat) : Int × Int := if i < N ∧ (eAt m s i).1 < 0 then (toF m.rows.length way s, out) else eAt m s i
def wF (m : Mach) (N : Nat) (way out : Int) (s i : Nat) : Nat → Nat → Int × Int := fun a b => if a < s ∨ (a = s ∧ b < i) then feF m N way out a b else eAt m a b
theorem wF_zero : wF m N way out 0 0 = eAt m := by
  funext a b; unfold wF; rw [if_neg (by omega)]
theorem wF_row (s : Nat) : wF m N way out s N = wF m N way out (s + 1) 0 := by
  funext a b
  unfold wF
  by_cases h : a < s ∨ (a = s ∧ b < N)
  · rw [if_pos h, if_pos (by omega)]
  · rw [if_neg h]
    by_cases h2 : a < s + 1 ∨ (a = s + 1 ∧ b < 0)
    · rw [if_pos h2, feF, if_neg (by omega)]
    · rw [if_neg h2]
theorem wF_keep {s i : Nat} (h : ¬ (eAt m s i).1 < 0) : wF m N way out s (i + 1) = wF m N way out s i := by
  funext a b
  unfold wF
  by_cases e : a = s ∧ b = i
  · obtain ⟨rfl, rfl⟩ := e
    rw [if_pos (by omega), if_neg (by omega), feF, if_neg (fun k => h k.2)]
  · by_cases h : a < s ∨ (a = s ∧ b < i)
    · rw [if_pos h, if_pos (by omega)]
    · rw [if_neg h, if_neg (by omega)]
theorem wF_set {s i : Nat} (hi : i < N) (h : (eAt m s i).1 < 0) : upd2 (wF m N way out s i) s i (toF m.rows.length way s, out) = wF m N way out s (i + 1) := by
  funext a b
  unfold upd2 wF
  by_cases e : a = s ∧ b = i
  · obtain ⟨rfl, rfl⟩ := e
    rw [if_pos ⟨rfl, rfl⟩, if_pos (by omega), feF, if_pos ⟨hi, h⟩]
  · rw [if_neg e]
    by_cases h : a < s ∨ (a = s ∧ b < i)
    · rw [if_pos h, if_pos (by omega)]
    · rw [if_neg h, if_neg (by omega)]
theorem upd2_upd2 {α : Type} (W : Nat → Nat → α) (s t : Nat) (x y : α) : upd2 (upd2 W s t x) s t y = upd2 W s t y := by
  funext a b
  unfold upd2
  by_cases e : a = s ∧ b = t
  · rw [if_pos e, if_pos e]
  · rw [if_neg e, if_neg e, if_neg e]
theorem upd2_at {α : Type} (W : Nat → Nat → α) (s t : Nat) (x : α) : upd2 W s t x s t = x := by unfold upd2; rw [if_pos ⟨rfl, rfl⟩]
theorem wF_at (s i : Nat) : wF m N way out s i s i = eAt m s i := by unfold wF; rw [if_neg (by omega)]
theorem wF_done (hv : Valid m) (hN : m.ins = (N : Int)) {s i : Nat} (hs : s < m.rows.length) (hi : i < N) : wF m N way out m.rows.length 0 s i = fillF m way out s i := by
  unfold wF
  rw [if_pos (by omega), fillF_lt hs, feF]
  have := none_iff hv hs (i := i) (by omega)
  by_cases h : (eAt m s i).1 < 0
  · rw [if_pos ⟨hi, h⟩, if_pos (this.2 h)]
  · rw [if_neg (fun k => h k.2), if_neg fun k => h (this.1 k)]
end
end Go.Avl
namespace Go.Avl
open Go Go.Proofs.Try
set_option maxRecDepth 10000
set_option linter.unusedSimpArgs false

set_option maxHeartbeats 4000000 in
theorem joinsFill_is {x : LM} (hx : x.Ok) (way out : Int) (hway : 0 ≤ way ∧ way < 256) : PureIs prog 6 [.ag x.cells, .sc (.int .u8 way), .sc (.int .i64 out)] (.sc (.bool true)) := by
  have va := LM.valid hx
  have hra : x.mach.rows.length ≤ 6 := by simp only [LM.mach, List.length_map, List.length_range]; have := LM.bounds hx; omega
  have cA := mOf_is hx
  generalize x.mach = a at va hra cA
  have hA : PureIs prog 12 [.ag [.sc (.int .u8 x.st), .sc (.int .u8 x.ins), .sc (.int .u8 x.outs), .sc (.bool x.part), .sl x.nl (x.es.map u16C) x.cap]] (.ag [.sc (.int .i64 a.ins), .sc (.int .i64 a.outs), .sl a.nl (a.rows.map rowC) .unk]) := cA
  clear cA
  have hai := va.ins
  obtain ⟨N, hN⟩ : ∃ N : Nat, a.ins = (N : Int) := ⟨a.ins.toNat, by omega⟩
  refine PureIs.of (nv := 4) (hid := [6, 7, 8, 9, 10, 11, 12, 13, 14, 15, 36, 43, 50, 56, 68, 80, 96, 100, 112]) func6 rfl (by kernel_rfl) (by simp [ntmps6]) fun _ => ?_
  rw [ntmps6, results6]
  refine EvC.seq (EvC.rg (by (simp only [go_sem, LM.cells]) <;> rfl) (by simp) ?_)
  apply EvC.seq
  apply EvC.tr
  · apply Tr.run
    · (simp only [go_sem]) <;> rfl
    · simp
    apply Tr.cons
    · exact .call rfl rfl (by (simp only [go_sem]) <;> rfl) (by (simp only [go_sem]) <;> rfl) (by (simp only [go_sem]) <;> rfl) (by (simp only [go_sem]) <;> rfl) (by (simp only [go_sem]) <;> rfl) (hA)
    apply Tr.done
    · (simp only [go_sem]) <;> rfl
    · simp
  by_cases hb : 1 < way ∨ out < 0 ∨ a.outs ≤ out
  · have hF := fill_is a va.small way out hway.1
    rw [fillA, if_neg (by simp [va.check]), if_pos hb] at hF
    simp only [errA, zeroM] at hF
    have kn := nothing_is 1 .zer
    apply EvC.seq
    apply EvC.tr
    · apply Tr.run
      · (simp only [go_sem, Mach.cells]) <;> rfl
      · simp
      apply Tr.cons
      · exact .call rfl rfl (by (simp only [go_sem]) <;> rfl) (by (simp only [go_sem]) <;> rfl) (by (simp only [go_sem]) <;> rfl) (by (simp only [go_sem]) <;> rfl) (by (simp only [go_sem]) <;> rfl) (hF)
      apply Tr.done
      · (simp only [go_sem]) <;> rfl
      · simp
    refine EvC.seq ?_
    apply EvC.seq
    apply EvC.trd
    · (simp only [go_sem, Mach.cells]) <;> rfl
    · simp
    refine EvC.cond (by (simp only [go_sem]) <;> rfl) (fun hc => ?_) (fun hc => ?_)
    · apply EvC.seq
      apply EvC.tr
      · apply Tr.run
        · (simp only [go_sem]) <;> rfl
        · simp
        apply Tr.cons
        · exact .call rfl rfl (by (simp only [go_sem]) <;> rfl) (by (simp only [go_sem]) <;> rfl) (by (simp only [go_sem]) <;> rfl) (by (simp only [go_sem]) <;> rfl) (by (simp only [go_sem]) <;> rfl) (kn)
        apply Tr.run
        · (simp only [go_sem]) <;> rfl
        · simp
        apply Tr.cons
        · exact .callG rfl rfl (by (simp only [go_sem]) <;> rfl) rfl (by (simp only [go_sem]) <;> rfl) (by (simp only [go_sem]) <;> rfl) (by (simp only [go_sem]) <;> rfl) (by (simp only [go_sem]) <;> rfl) (by (simp only [go_sem]) <;> rfl) (lives_is)
        apply Tr.done
        · (simp only [go_sem]) <;> rfl
        · simp
      refine EvC.ret ⟨.inl rfl, _, (by (simp only [go_sem]) <;> rfl), ?_, rfl⟩
      simp only [go_sem]
    · exfalso
      by_cases h1 : 1 < way <;> by_cases h2 : out < 0 <;> simp_all <;> omega
  have hw2 : way = 0 ∨ way = 1 := by omega
  have ho : 0 ≤ out ∧ out < a.outs := by omega
  have hF := fill_is a va.small way out hway.1
  rw [fill_res va hN hra hw2 ho] at hF
  have vM := fillM_valid va hN hra hw2 ho
  have cM := fillM_comp va hN hw2 ho
  have lM := fillM_len a N way out
  obtain ⟨m, hm⟩ : ∃ m, m = fillM a N way out := ⟨_, rfl⟩
  rw [← hm] at hF vM cM lM
  have hF : PureIs prog 25 [.ag a.cells, .sc (.int .u8 way), .sc (.int .i64 out)] (.tu [.ag [.sc (.int .i64 m.ins), .sc (.int .i64 m.outs), .sl m.nl (m.rows.map rowG) .full], .sc (.int .i64 0)]) := hF
  apply EvC.seq
  apply EvC.tr
  · apply Tr.run
    · (simp only [go_sem, Mach.cells]) <;> rfl
    · simp
    apply Tr.cons
    · exact .call rfl rfl (by (simp only [go_sem]) <;> rfl) (by (simp only [go_sem]) <;> rfl) (by (simp only [go_sem]) <;> rfl) (by (simp only [go_sem]) <;> rfl) (by (simp only [go_sem]) <;> rfl) (hF)
    apply Tr.done
    · (simp only [go_sem]) <;> rfl
    · simp
  refine EvC.seq ?_
  have k1 : decide (1 < way) = false := decide_eq_false (by omega)
  have k2 : decide (out < 0) = false := decide_eq_false (by omega)
  have k3 : decide (a.outs ≤ out) = false := decide_eq_false (by omega)
  apply EvC.seq
  apply EvC.trd
  · (simp only [go_sem, Mach.cells, k1, k2, k3]) <;> rfl
  · simp
  refine EvC.cond_false (by (simp only [go_sem]) <;> rfl) ?_
  refine EvC.skip ?_
  refine EvC.frzB 0 (by (simp only [go_sem]) <;> rfl) ?_
  refine EvC.frzB 4 (by (simp only [go_sem]) <;> rfl) ?_
  refine EvC.frzB 13 (by (simp only [go_sem]) <;> rfl) ?_
  apply EvC.seq  -- R5
  apply EvC.rs
  · (simp only [go_sem]) <;> rfl
  · simp
  refine XR.gcTo ⟨[(1, .sc (.int .u8 way)), (2, .sc (.int .i64 out)), (7, .ia a.cells), (8, .ia m.cellsF), (9, .sc (.int .i64 0)), (43, .ag a.cells)], [], [], 0⟩ [1, 2, 7, 8, 9, 43] [] (by rfl) (by (simp only [go_sem, Mach.cells, Mach.cellsF]) <;> rfl) ?_
  apply XR.callI rfl rfl (by (simp only [go_sem]) <;> rfl) (by (simp only [go_sem]) <;> rfl) (by (simp only [go_sem]) <;> rfl)
  refine copy_is va hN ?_
  apply XR.done
  · (simp only [go_sem]) <;> rfl
  · simp [tcell_len]
  refine EvC.seq (EvC.rg (by (simp only [go_sem, Mach.cells, List.length_map]) <;> rfl) (by simp) ?_)
  refine EvC.seq ?_
  refine EvC.seq (EvC.rg (by (simp only [go_sem]) <;> rfl) (by simp) ?_)
  refine EvC.block ?_  -- 0
  have hn1 : a.rows.length ≤ 1000000 := by omega
  have hlo0 : ∀ k, k < a.rows.length → rlook (segK [(1000011, 1000000), (1000002, 1000001)] a.rows.length []) k = some k := fun k hk => rlook_segK_lo hk hn1 (A := [(1000011, 1000000), (1000002, 1000001)]) rfl
  have hlo : ∀ k, k < a.rows.length → rlook (segK [(1000000, 1000000), (1000001, 1000001)] a.rows.length []) k = some k := fun k hk => rlook_segK_lo hk hn1 (A := [(1000000, 1000000), (1000001, 1000001)]) rfl
  have hK : gcOk 0 1000002 (segK [(1000000, 1000000), (1000001, 1000001)] a.rows.length []) = true := segK_ok (A := [(1000000, 1000000), (1000001, 1000001)]) rfl rfl rfl hn1 (by omega)
  have hml := tcell_len N a.rows.length
  refine EvC.loopS (σ := Nat) (fun s => ⟨[(1, .sc (.int .u8 way)), (2, .sc (.int .i64 out)), (7, .ia a.cells), (8, .ia m.cellsF), (9, .sc (.int .i64 0)), (10, .rf 1000000 0), (11, .sc (.int .i64 a.rows.length)), (12, .sc (.int .i64 s))], [], (1000000, .cells [.sc (.int .i64 a.ins), .sc (.int .i64 a.outs), .tl 1000001 a.rows.length false]) :: (1000001, .arr 1 (tcell N a.rows.length) false) :: gtab 2 edgeC (wF a N way out s 0) a.rows.length N, 1000002⟩) (fun s => a.rows.length - s) (fun s => s ≤ a.rows.length) [1, 2, 7, 8, 9, 10, 11, 12] 1000002 ?_ ?_
  · exact ⟨segK [(1000011, 1000000), (1000002, 1000001)] a.rows.length [], 0, segK_ok (A := [(1000011, 1000000), (1000002, 1000001)]) rfl rfl rfl hn1 (by omega), (by rw [wF_zero]; (simp only [go_sem, Mach.cells, Mach.cellsF, hN, rlook_segK_hi hn1, List.cons_append, List.nil_append, List.append_nil, renMem_idK_cons hn1, renMem_idK_mset hn1, gtab_ren 2 hEn, tcell_ren hlo0, ite_self, Int.natCast_add, Int.natCast_one, Int.natCast_zero]) <;> rfl), Nat.zero_le _⟩
  intro s hs
  refine EvC.seq ?_
  refine EvC.seq (EvC.rg (by (simp only [go_sem]) <;> rfl) (by simp) ?_)
  refine EvC.cond (by (simp only [go_sem]) <;> rfl) (fun hc => ?_) (fun hc => ?_)
  rotate_left
  · -- else
    refine EvC.exit ?_  -- 0
    obtain rfl : a.rows.length = s := by have : ¬ s < a.rows.length := by simpa using hc
                                         omega
    clear hc hs
    have hgc : gtab 2 edgeC (wF a N way out a.rows.length 0) a.rows.length N = gtab 2 edgeC (fillF a way out) a.rows.length N := by
      unfold gtab
      congr 1
      refine List.map_congr_left fun s hs => ?_
      unfold grow
      congr 1
      exact gcells_congr edgeC fun t ht => wF_done va hN (List.mem_range.1 hs) ht
    rw [hgc]
    clear hgc
    obtain ⟨rs, hrs⟩ : ∃ rs : List Row, rs = (List.range a.rows.length).map fun s => (false, (List.range N).map (fillF a way out s)) := ⟨_, rfl⟩
    have hfzC : ∀ i, i < a.rows.length → ∃ esz es fz, mlook ((1000000, .cells [.sc (.int .i64 a.ins), .sc (.int .i64 a.outs), .tl 1000001 a.rows.length false]) :: (1000001, .arr 1 (tcell N a.rows.length) false) :: gtab 2 edgeC (fillF a way out) a.rows.length N) i = some (.arr esz es fz) ∧ es.all AV.norefs = true := fun i hi => by
      have hi6 : i < 1000000 := by omega
      refine ⟨2, gcells edgeC (fillF a way out i) N, false, ?_, gcells_norefs hEn _ _⟩
      simp only [mlook, lo_ne hi6 1000000 (Nat.le_refl _), lo_ne hi6 1000001 (by decide), if_false, gtab_look _ _ _ hi]
    have hsnap : (tcell N a.rows.length).map (fun c => c.map (AV.deep (snap ((1000000, .cells [.sc (.int .i64 a.ins), .sc (.int .i64 a.outs), .tl 1000001 a.rows.length false]) :: (1000001, .arr 1 (tcell N a.rows.length) false) :: gtabF 2 edgeC (fillF a way out) a.rows.length N)))) = rs.map rowC := by
      rw [tcell_snap (e := 2) (row := fun s => gcells edgeC (fillF a way out s) N)]
      · rw [hrs, List.map_map]
        refine List.map_congr_left fun s _ => ?_
        rw [gcells_edge]; rfl
      · intro i hi
        have hi6 : i < 1000000 := by omega
        simp only [mlook, lo_ne hi6 1000000 (Nat.le_refl _), lo_ne hi6 1000001 (by decide), if_false, gtabF_look _ _ _ hi]
      · intro i _; exact gcells_len _ _ _
    have hrl : rs.length = a.rows.length := by rw [hrs]; simp
    have hrn : ∀ rs : List Row, (rs.map rowC).all AV.norefs = true := fun rs => by simp [List.all_eq_true, rowC, AV.norefs, AV.noref]
    refine EvC.fzAll a.rows.length hfzC ?_
    refine EvC.snapA 1000001 (by (simp only [go_sem, fzAll_cons hn1, gtab_fz, hsnap]) <;> rfl) ?_
    refine EvC.gc [1, 2, 7, 8, 9, 10, 11] [(1000000, 0), (1000001, 1)] 2 rfl ?_
    have hmi : m.ins = a.ins := by rw [hm]; rfl
    have hC28 : PureIs prog 28 [.ag [.sc (.int .i64 m.ins), .sc (.int .i64 m.outs), .sl m.nl (m.rows.map rowG) .full]] (.sc (.bool true)) := by
      have := complete28F_is vM (hmi.trans hN)
      rwa [cM] at this
    have hMac : ∀ rx : List Row, rx = m.rows → PureIs prog 21 [.ag [.sc (.int .i64 m.ins), .sc (.int .i64 m.outs), .sl m.nl (m.rows.map rowG) .full], .sc (.int .i64 0), .ag [.sc (.int .i64 a.ins), .sc (.int .i64 a.outs), .sl false (rx.map rowC) .unk]] (.sc (.bool true)) := fun rx hx => by
      have h2 := vM.rows
      exact machine_is (a := m) (b := ⟨a.ins, a.outs, false, rx⟩) hmi (by rw [hm]; rfl) (by rw [hx]) (by omega) vM.small
    have hfn := fillN_le a N way
    refine EvC.seq ?_
    by_cases hA1 : way = 1 ∧ compD a N = false
    · obtain ⟨rfl, hA2⟩ := hA1
      have h28 := complete28_is va hN
      rw [hA2] at h28
      apply EvC.seq
      apply EvC.tr
      · apply Tr.run
        · (simp only [go_sem, Mach.cells, hrn, hrl]) <;> rfl
        · simp
        apply Tr.cons
        · exact .callG rfl rfl (by (simp only [go_sem]) <;> rfl) rfl (by (simp only [go_sem]) <;> rfl) (by (simp only [go_sem]) <;> rfl) (by (simp only [go_sem]) <;> rfl) (by (simp only [go_sem]) <;> rfl) (by (simp only [go_sem]) <;> rfl) (h28)
        apply Tr.done
        · (simp only [go_sem]) <;> rfl
        · simp
      refine EvC.cond_true (by (simp only [go_sem]) <;> rfl) ?_
      refine EvC.seq (EvC.rg (by (simp only [go_sem]) <;> rfl) (by simp) ?_)
      refine EvC.seq ?_
      refine EvC.seq (EvC.rg (by (simp only [go_sem]) <;> rfl) (by simp) ?_)
      refine EvC.block ?_  -- 4
      refine EvC.loopS (σ := Nat) (fun k => ⟨[(2, .sc (.int .i64 out)), (7, .ia a.cells), (8, .ia m.cellsF), (9, .sc (.int .i64 0)), (10, .rf 0 0), (11, .sc (.int .i64 a.rows.length)), (14, .tl 2 k (k == 0)), (15, .sc (.int .i64 k))], [], [(0, .cells [.sc (.int .i64 a.ins), .sc (.int .i64 a.outs), .tl 1 a.rows.length false]), (1, .arr 1 (rs.map rowC) false), (2, .arr 2 (List.replicate k [.sc (.int .i64 a.rows.length), .sc (.int .i64 out)]) true)], 3⟩) (fun k => N - k) (fun k => k ≤ N) [2, 7, 8, 9, 10, 11, 14, 15] 3 ?_ ?_
      · exact ⟨[(0, 0), (1, 1), (9, 2)], 0, rfl, (by (simp only [go_sem, Mach.cells, Mach.cellsF, hrn, List.replicate_zero, Int.natCast_zero]) <;> rfl), Nat.zero_le _⟩
      intro k hk
      have hrk : ∀ k : Nat, (List.replicate k [AV.sc (.int .i64 a.rows.length), AV.sc (.int .i64 out)]).all AV.norefs = true := fun k => by simp [List.all_replicate, AV.norefs, AV.noref]
      refine EvC.seq ?_
      refine EvC.seq (EvC.rg (by (simp only [go_sem, Mach.cells, hN]) <;> rfl) (by simp) ?_)
      refine EvC.cond (by (simp only [go_sem]) <;> rfl) (fun hc => ?_) (fun hc => ?_)
      rotate_left
      · -- else
        refine EvC.exit ?_  -- 4
        obtain rfl : N = k := by have : ¬ k < N := by simpa using hc
                                 omega
        clear hc hk
        have hN0 : (N == 0) = false := by simp; omega
        have hcat : rs.map rowC ++ [[AV.sl false (List.replicate N [AV.sc (.int .i64 a.rows.length), AV.sc (.int .i64 out)]) .unk]] = (rs ++ [(false, List.replicate N ((a.rows.length : Int), out))]).map rowC := by simp [rowC, edgeC]
        have hmr : rs ++ [(false, List.replicate N ((a.rows.length : Int), out))] = m.rows := by
          rw [hrs, hm, fillM, fillN, if_pos ⟨rfl, hA2⟩, List.range_succ, List.map_append]
          congr 1
          simp only [List.map_cons, List.map_nil]
          congr 2
          symm
          rw [List.eq_replicate_iff]
          refine ⟨by simp, fun b hb => ?_⟩
          obtain ⟨i, _, rfl⟩ := List.mem_map.1 hb
          simp [fillF]
        have hrl2 : (rs ++ [(false, List.replicate N ((a.rows.length : Int), out))]).length = a.rows.length + 1 := by simp [hrl]
        generalize rs ++ [(false, List.replicate N ((a.rows.length : Int), out))] = rx at hcat hmr hrl2
        refine EvC.rg (by (simp only [go_sem, hN0, hrl, hrk, List.length_map, List.length_replicate]) <;> rfl) (by simp [hrl, room_eq]; try omega) ?_
        refine EvC.frzD 1 (by (simp only [go_sem, hrn, hrl, hcat, hrl2, List.length_map]) <;> rfl) ?_
        refine EvC.frzB 0 (by (simp only [go_sem, hrn]) <;> rfl) ?_
        have hMx := hMac rx hmr
        rw [hN] at hMx
        apply EvC.seq
        apply EvC.tr
        · apply Tr.run
          · (simp only [go_sem, Mach.cells, Mach.cellsF]) <;> rfl
          · simp
          apply Tr.cons
          · exact .call rfl rfl (by (simp only [go_sem]) <;> rfl) (by (simp only [go_sem]) <;> rfl) (by (simp only [go_sem]) <;> rfl) (by (simp only [go_sem]) <;> rfl) (by (simp only [go_sem]) <;> rfl) (hMx)
          apply Tr.run
          · (simp only [go_sem, Mach.cells, Mach.cellsF]) <;> rfl
          · simp
          apply Tr.cons
          · exact .callG rfl rfl (by (simp only [go_sem]) <;> rfl) rfl (by (simp only [go_sem]) <;> rfl) (by (simp only [go_sem]) <;> rfl) (by (simp only [go_sem]) <;> rfl) (by (simp only [go_sem]) <;> rfl) (by (simp only [go_sem]) <;> rfl) (hC28)
          apply Tr.run
          · (simp only [go_sem, Mach.cells, Mach.cellsF]) <;> rfl
          · simp
          apply Tr.cons
          · exact .callG rfl rfl (by (simp only [go_sem]) <;> rfl) rfl (by (simp only [go_sem]) <;> rfl) (by (simp only [go_sem]) <;> rfl) (by (simp only [go_sem]) <;> rfl) (by (simp only [go_sem]) <;> rfl) (by (simp only [go_sem]) <;> rfl) (lives_is)
          apply Tr.done
          · (simp only [go_sem]) <;> rfl
          · simp
        refine EvC.ret ⟨.inl rfl, _, (by (simp only [go_sem]) <;> rfl), ?_, rfl⟩
        simp only [go_sem]
      have hkl : k < N := by simpa using hc
      clear hc
      have hk0 : (k + 1 == 0) = false := rfl
      have hrep : List.replicate k [AV.sc (.int .i64 a.rows.length), AV.sc (.int .i64 out)] ++ [[AV.sc (.int .i64 a.rows.length), AV.sc (.int .i64 out)]] = List.replicate (k + 1) [AV.sc (.int .i64 a.rows.length), AV.sc (.int .i64 out)] := by rw [List.replicate_succ']
      refine EvC.skip ?_
      refine EvC.seq ?_
      refine EvC.block ?_  -- 5
      apply EvC.tr
      · apply Tr.run
        · (simp only [go_sem, List.length_replicate]) <;> rfl
        · simp
        apply Tr.cons
        · exact .call rfl rfl (by (simp only [go_sem]) <;> rfl) (by (simp only [go_sem]) <;> rfl) (by (simp only [go_sem]) <;> rfl) (by (simp only [go_sem]) <;> rfl) (by (simp only [go_sem]) <;> rfl) (edge_is' a.rows.length out)
        apply Tr.done
        · (simp only [go_sem, List.length_replicate]) <;> rfl
        · simp [room_eq]; try omega
      refine EvC.rg (by (simp only [go_sem]) <;> rfl) (by exact inI64_of (by omega) (by omega)) ?_
      exact ⟨[(0, 0), (1, 1), (2, 2)], k + 1, rfl, (by (simp only [go_sem, Mach.cells, Mach.cellsF, hN, hrn, hk0, hrk, hrep, Int.natCast_add, Int.natCast_one]) <;> rfl), hkl, by omega⟩
    · have hmr : rs = m.rows := by
        rw [hrs, hm, fillM, fillN, if_neg hA1]
      rcases hw2 with rfl | rfl
      · apply EvC.seq
        apply EvC.tr
        · apply Tr.run
          · (simp only [go_sem, Mach.cells, hrn, hrl]) <;> rfl
          · simp
          apply Tr.cons
          · exact .skipv (.sc (.bool false)) rfl rfl (by (simp only [go_sem]) <;> rfl) (by (simp only [go_sem]) <;> rfl)
          apply Tr.done
          · (simp only [go_sem]) <;> rfl
          · simp
        refine EvC.cond_false (by (simp only [go_sem]) <;> rfl) ?_
        refine EvC.skip ?_
        refine EvC.frzD 1 (by (simp only [go_sem, hrn, hrl, List.length_map]) <;> rfl) ?_
        refine EvC.frzB 0 (by (simp only [go_sem, hrn]) <;> rfl) ?_
        apply EvC.seq
        apply EvC.tr
        · apply Tr.run
          · (simp only [go_sem, Mach.cells, Mach.cellsF]) <;> rfl
          · simp
          apply Tr.cons
          · exact .call rfl rfl (by (simp only [go_sem]) <;> rfl) (by (simp only [go_sem]) <;> rfl) (by (simp only [go_sem]) <;> rfl) (by (simp only [go_sem]) <;> rfl) (by (simp only [go_sem]) <;> rfl) (hMac rs hmr)
          apply Tr.run
          · (simp only [go_sem, Mach.cells, Mach.cellsF]) <;> rfl
          · simp
          apply Tr.cons
          · exact .callG rfl rfl (by (simp only [go_sem]) <;> rfl) rfl (by (simp only [go_sem]) <;> rfl) (by (simp only [go_sem]) <;> rfl) (by (simp only [go_sem]) <;> rfl) (by (simp only [go_sem]) <;> rfl) (by (simp only [go_sem]) <;> rfl) (hC28)
          apply Tr.run
          · (simp only [go_sem, Mach.cells, Mach.cellsF]) <;> rfl
          · simp
          apply Tr.cons
          · exact .callG rfl rfl (by (simp only [go_sem]) <;> rfl) rfl (by (simp only [go_sem]) <;> rfl) (by (simp only [go_sem]) <;> rfl) (by (simp only [go_sem]) <;> rfl) (by (simp only [go_sem]) <;> rfl) (by (simp only [go_sem]) <;> rfl) (lives_is)
          apply Tr.done
          · (simp only [go_sem]) <;> rfl
          · simp
        refine EvC.ret ⟨.inl rfl, _, (by (simp only [go_sem]) <;> rfl), ?_, rfl⟩
        simp only [go_sem]
      · have h28 := complete28_is va hN
        have hA2 : compD a N = true := by simpa using fun h => hA1 ⟨rfl, h⟩
        rw [hA2] at h28
        apply EvC.seq
        apply EvC.tr
        · apply Tr.run
          · (simp only [go_sem, Mach.cells, hrn, hrl]) <;> rfl
          · simp
          apply Tr.cons
          · exact .callG rfl rfl (by (simp only [go_sem]) <;> rfl) rfl (by (simp only [go_sem]) <;> rfl) (by (simp only [go_sem]) <;> rfl) (by (simp only [go_sem]) <;> rfl) (by (simp only [go_sem]) <;> rfl) (by (simp only [go_sem]) <;> rfl) (h28)
          apply Tr.done
          · (simp only [go_sem]) <;> rfl
          · simp
        refine EvC.cond_false (by (simp only [go_sem]) <;> rfl) ?_
        refine EvC.skip ?_
        refine EvC.frzD 1 (by (simp only [go_sem, hrn, hrl, List.length_map]) <;> rfl) ?_
        refine EvC.frzB 0 (by (simp only [go_sem, hrn]) <;> rfl) ?_
        apply EvC.seq
        apply EvC.tr
        · apply Tr.run
          · (simp only [go_sem, Mach.cells, Mach.cellsF]) <;> rfl
          · simp
          apply Tr.cons
          · exact .call rfl rfl (by (simp only [go_sem]) <;> rfl) (by (simp only [go_sem]) <;> rfl) (by (simp only [go_sem]) <;> rfl) (by (simp only [go_sem]) <;> rfl) (by (simp only [go_sem]) <;> rfl) (hMac rs hmr)
          apply Tr.run
          · (simp only [go_sem, Mach.cells, Mach.cellsF]) <;> rfl
          · simp
          apply Tr.cons
          · exact .callG rfl rfl (by (simp only [go_sem]) <;> rfl) rfl (by (simp only [go_sem]) <;> rfl) (by (simp only [go_sem]) <;> rfl) (by (simp only [go_sem]) <;> rfl) (by (simp only [go_sem]) <;> rfl) (by (simp only [go_sem]) <;> rfl) (hC28)
          apply Tr.run
          · (simp only [go_sem, Mach.cells, Mach.cellsF]) <;> rfl
          · simp
          apply Tr.cons
          · exact .callG rfl rfl (by (simp only [go_sem]) <;> rfl) rfl (by (simp only [go_sem]) <;> rfl) (by (simp only [go_sem]) <;> rfl) (by (simp only [go_sem]) <;> rfl) (by (simp only [go_sem]) <;> rfl) (by (simp only [go_sem]) <;> rfl) (lives_is)
          apply Tr.done
          · (simp only [go_sem]) <;> rfl
          · simp
        refine EvC.ret ⟨.inl rfl, _, (by (simp only [go_sem]) <;> rfl), ?_, rfl⟩
        simp only [go_sem]
  have hsl : s < a.rows.length := by simpa using hc
  clear hc
  have hs6 : s < 1000000 := by omega
  refine EvC.skip ?_
  refine EvC.seq ?_
  refine EvC.block ?_  -- 1
  refine EvC.seq (EvC.rg (by (simp only [go_sem]) <;> rfl) (by simp) ?_)
  refine EvC.block ?_  -- 2
  refine EvC.loopS (σ := Nat) (fun i => ⟨[(1, .sc (.int .u8 way)), (2, .sc (.int .i64 out)), (7, .ia a.cells), (8, .ia m.cellsF), (9, .sc (.int .i64 0)), (10, .rf 1000000 0), (11, .sc (.int .i64 a.rows.length)), (12, .sc (.int .i64 s)), (13, .sc (.int .i64 i))], [], (1000000, .cells [.sc (.int .i64 a.ins), .sc (.int .i64 a.outs), .tl 1000001 a.rows.length false]) :: (1000001, .arr 1 (tcell N a.rows.length) false) :: gtab 2 edgeC (wF a N way out s i) a.rows.length N, 1000002⟩) (fun i => N - i) (fun i => i ≤ N) [1, 2, 7, 8, 9, 10, 11, 12, 13] 1000002 ?_ ?_
  · exact ⟨segK [(1000000, 1000000), (1000001, 1000001)] a.rows.length [], 0, hK, (by (simp only [go_sem, Mach.cells, Mach.cellsF, hN, rlook_segK_hi hn1, List.cons_append, List.nil_append, List.append_nil, renMem_idK_cons hn1, renMem_idK_mset hn1, gtab_ren 2 hEn, tcell_ren hlo, ite_self, Int.natCast_add, Int.natCast_one, Int.natCast_zero]) <;> rfl), Nat.zero_le _⟩
  intro i hi
  refine EvC.seq ?_
  refine EvC.seq (EvC.rg (by (simp only [go_sem, Mach.cells, hN]) <;> rfl) (by simp) ?_)
  refine EvC.cond (by (simp only [go_sem]) <;> rfl) (fun hc => ?_) (fun hc => ?_)
  rotate_left
  · -- else
    refine EvC.exit ?_  -- 2
    obtain rfl : N = i := by have : ¬ i < N := by simpa using hc
                             omega
    refine EvC.rg (by (simp only [go_sem]) <;> rfl) (by exact inI64_of (by omega) (by omega)) ?_
    exact ⟨segK [(1000000, 1000000), (1000001, 1000001)] a.rows.length [], s + 1, hK, (by rw [← wF_row]; (simp only [go_sem, Mach.cells, Mach.cellsF, hN, rlook_segK_hi hn1, List.cons_append, List.nil_append, List.append_nil, renMem_idK_cons hn1, renMem_idK_mset hn1, gtab_ren 2 hEn, tcell_ren hlo, ite_self, Int.natCast_add, Int.natCast_one, Int.natCast_zero]) <;> rfl), hsl, by omega⟩
  have hil : i < N := by simpa using hc
  clear hc
  have hlt := gtab_look 2 edgeC (wF a N way out s i) (m := N) hsl
  refine EvC.skip ?_
  refine EvC.seq ?_
  refine EvC.block ?_  -- 3
  refine EvC.seq ?_
  refine EvC.seq (EvC.rg (by (simp only [go_sem, hml, tcell_get hsl, lo_ne hs6, hlt, gcells_len, gcells_get edgeC (wF a N way out s i s) hil, Int.toNat_natCast, edgeC, wF_at]) <;> rfl) (by simp; try omega) ?_)
  refine EvC.cond (by (simp only [go_sem]) <;> rfl) (fun hc => ?_) (fun hc => ?_)
  · -- then
    have h0 : ¬ (eAt a s i).1 < 0 := by simpa using hc
    refine EvC.exit ?_  -- 3
    refine EvC.rg (by (simp only [go_sem]) <;> rfl) (by exact inI64_of (by omega) (by omega)) ?_
    exact ⟨segK [(1000000, 1000000), (1000001, 1000001)] a.rows.length [], i + 1, hK, (by rw [wF_keep h0]; (simp only [go_sem, Mach.cells, Mach.cellsF, hN, rlook_segK_hi hn1, List.cons_append, List.nil_append, List.append_nil, renMem_idK_cons hn1, renMem_idK_mset hn1, gtab_ren 2 hEn, tcell_ren hlo, ite_self, Int.natCast_add, Int.natCast_one, Int.natCast_zero]) <;> rfl), hil, by omega⟩
  have h0 : (eAt a s i).1 < 0 := by simpa using hc
  refine EvC.skip ?_
  have hset : mset (gtab 2 edgeC (wF a N way out s i) a.rows.length N) s (.arr 2 ((gcells edgeC (wF a N way out s i s) N).set i [.sc (.int .i64 s), .sc (.int .i64 out)]) false) = gtab 2 edgeC (upd2 (wF a N way out s i) s i ((s : Int), out)) a.rows.length N := gtab_set 2 edgeC (wF a N way out s i) ((s : Int), out) hsl hil
  apply EvC.seq  -- R14
  apply EvC.drw mixed
  · apply Tr.run
    · (simp only [go_sem, hml, tcell_get hsl, lo_ne hs6, lo_ne' hs6, hlt, gcells_len, gcells_get edgeC (wF a N way out s i s) hil, Int.toNat_natCast, edgeC, wF_at]) <;> rfl
    · simp; try omega
    apply Tr.cons
    · exact .call rfl rfl (by (simp only [go_sem]) <;> rfl) (by (simp only [go_sem]) <;> rfl) (by (simp only [go_sem]) <;> rfl) (by (simp only [go_sem]) <;> rfl) (by (simp only [go_sem]) <;> rfl) (edge_is' s out)
    apply Tr.done
    · (simp only [go_sem, hml, tcell_get hsl, lo_ne hs6, lo_ne' hs6, hlt, gcells_len, gcells_get edgeC (wF a N way out s i s) hil, Int.toNat_natCast, edgeC, wF_at, hset]) <;> rfl
    · simp; try omega
  · exact confAll_slots (by simp [rdOk, slotsOf, opSlots, memless, Op.operands, Call.operands]) (by kernel_rfl)
  refine EvC.seq (EvC.rg (by (simp only [go_sem]) <;> rfl) (by simp) ?_)
  rcases hw2 with rfl | rfl
  · have hu : upd2 (wF a N 0 out s i) s i ((s : Int), out) = wF a N 0 out s (i + 1) := wF_set hil h0
    rw [hu]
    refine EvC.cond_false (by (simp only [go_sem]) <;> rfl) ?_
    refine EvC.skip ?_
    refine EvC.rg (by (simp only [go_sem]) <;> rfl) (by exact inI64_of (by omega) (by omega)) ?_
    exact ⟨segK [(1000000, 1000000), (1000001, 1000001)] a.rows.length [], i + 1, hK, (by (simp only [go_sem, Mach.cells, Mach.cellsF, hN, rlook_segK_hi hn1, List.cons_append, List.nil_append, List.append_nil, renMem_idK_cons hn1, renMem_idK_mset hn1, gtab_ren 2 hEn, tcell_ren hlo, ite_self, Int.natCast_add, Int.natCast_one, Int.natCast_zero]) <;> rfl), hil, by omega⟩
  · have hu : upd2 (upd2 (wF a N 1 out s i) s i ((s : Int), out)) s i ((a.rows.length : Int), out) = wF a N 1 out s (i + 1) := by rw [upd2_upd2]; exact wF_set hil h0
    have hlt2 := gtab_look 2 edgeC (upd2 (wF a N 1 out s i) s i ((s : Int), out)) (m := N) hsl
    have hset2 : mset (gtab 2 edgeC (upd2 (wF a N 1 out s i) s i ((s : Int), out)) a.rows.length N) s (.arr 2 ((gcells edgeC (upd2 (wF a N 1 out s i) s i ((s : Int), out) s) N).set i [.sc (.int .i64 a.rows.length), .sc (.int .i64 out)]) false) = gtab 2 edgeC (upd2 (upd2 (wF a N 1 out s i) s i ((s : Int), out)) s i ((a.rows.length : Int), out)) a.rows.length N := gtab_set 2 edgeC _ ((a.rows.length : Int), out) hsl hil
    refine EvC.cond_true (by (simp only [go_sem]) <;> rfl) ?_
    refine EvC.rg (by (simp only [go_sem, hml, tcell_get hsl, lo_ne hs6, lo_ne' hs6, hlt2, gcells_len, gcells_get edgeC (upd2 (wF a N 1 out s i) s i ((s : Int), out) s) hil, Int.toNat_natCast, edgeC, upd2_at, hset2]) <;> rfl) (by simp; try omega) ?_
    rw [hu]
    refine EvC.rg (by (simp only [go_sem]) <;> rfl) (by exact inI64_of (by omega) (by omega)) ?_
    exact ⟨segK [(1000000, 1000000), (1000001, 1000001)] a.rows.length [], i + 1, hK, (by (simp only [go_sem, Mach.cells, Mach.cellsF, hN, rlook_segK_hi hn1, List.cons_append, List.nil_append, List.append_nil, renMem_idK_cons hn1, renMem_idK_mset hn1, gtab_ren 2 hEn, tcell_ren hlo, ite_self, Int.natCast_add, Int.natCast_one, Int.natCast_zero]) <;> rfl), hil, by omega⟩
end Go.Avl
namespace Go.Avl
open Go Go.Proofs.Try
set_option maxRecDepth 10000
set_option linter.unusedSimpArgs false

/-! ### Rings -/
def ringRow (n k s : Nat) : List (Int × Int) := [((((s + 1) % n : Nat) : Int), ((s % k : Nat) : Int))]
def ringM (n k : Nat) : Mach := ⟨1, k, false, (List.range n).map fun s => (false, ringRow n k s)⟩
def ringRowA (n k s : Nat) : List AV := [.sl false ((ringRow n k s).map edgeC) .full]
@[go_sem] theorem norefs_ringRow (n k : Nat) (l : List Nat) : (l.map (ringRowA n k)).all AV.norefs = true := by simp [List.all_eq_true, ringRowA, AV.norefs, AV.noref]
theorem ringM_len (n k : Nat) : (ringM n k).rows.length = n := by simp [ringM]
theorem ringM_eAt {n k s : Nat} (hs : s < n) : eAt (ringM n k) s 0 = ((((s + 1) % n : Nat) : Int), ((s % k : Nat) : Int)) := by
  refine eAt_get (r := (false, ringRow n k s)) ?_ rfl
  rw [ringM, List.getElem?_map, List.getElem?_range hs]; rfl
theorem ringM_valid {n k : Nat} (h1 : 1 ≤ n ∧ n ≤ 64) (h2 : 1 ≤ k ∧ k ≤ 16) : Valid (ringM n k) := by
  refine ⟨by simp [ringM], by simp only [ringM]; omega, by rw [ringM_len]; omega, fun r hr => ?_⟩
  rw [ringM_len]
  simp only [ringM, List.mem_map, List.mem_range] at hr ⊢
  obtain ⟨s, hs, rfl⟩ := hr
  refine ⟨by simp [ringRow], fun e he => ?_⟩
  have hd := Nat.mod_lt (s + 1) (show 0 < n by omega)
  have hm := Nat.mod_lt s (show 0 < k by omega)
  simp only [ringRow, List.mem_cons, List.not_mem_nil, or_false] at he
  subst he
  generalize (s + 1) % n = d at hd ⊢
  generalize s % k = m at hm ⊢
  simp only [fitsR, Bool.or_eq_true, Bool.and_eq_true, decide_eq_true_eq]
  right
  omega
theorem ringM_small (n k : Nat) : ∀ r ∈ (ringM n k).rows, r.2.length < 1000000 := fun r hr => by
  simp only [ringM, List.mem_map, List.mem_range] at hr
  obtain ⟨s, _, rfl⟩ := hr
  simp [ringRow]
theorem ring_unk (n k : Nat) : AV.unk (.ag [.sc (.int .i64 1), .sc (.int .i64 k), .sl false ((List.range n).map (ringRowA n k)) .unk]) = .ag (ringM n k).cells := by
  simp only [AV.unk, AV.unks, unkss_eq, List.map_map, Mach.cells, ringM]
  congr 4

set_option maxHeartbeats 4000000 in
theorem ring_is {n k : Nat} (h1 : 1 ≤ n ∧ n ≤ 70) (h2 : 1 ≤ k ∧ k ≤ 16) : PureIs prog 35 [.sc (.int .i64 n), .sc (.int .i64 k)] (.ag (ringM n k).cells) := by
  rw [← ring_unk]
  refine PureIs.weakR ?_
  have hn0 : decide ((n : Int) = 0) = false := decide_eq_false (by omega)
  have hk0 : decide ((k : Int) = 0) = false := decide_eq_false (by omega)
  refine PureIs.of (nv := 2) (hid := [4, 5, 6, 11]) func35 rfl (by kernel_rfl) (by simp [ntmps35]) fun _ => ?_
  rw [ntmps35, results35]
  refine EvC.seq (EvC.rg (by (simp only [go_sem]) <;> rfl) (by simp) ?_)
  refine EvC.seq (EvC.rg (by (simp only [go_sem]) <;> rfl) (by simp) ?_)
  refine EvC.seq ?_
  refine EvC.seq (EvC.rg (by (simp only [go_sem]) <;> rfl) (by simp) ?_)
  refine EvC.block ?_  -- 0
  refine EvC.ownC 3 2 1 (by (simp only [go_sem]) <;> rfl) ?_
  refine EvC.loopS (σ := Nat) (fun s => ⟨[(0, .sc (.int .i64 n)), (1, .sc (.int .i64 k)), (4, .rf 1 0), (5, .rf 0 0), (6, .sc (.int .i64 s))], [], [(0, .cells [.sc (.int .i64 1), .sc (.int .i64 k), .tl 2 s (s == 0)]), (1, .cells [.sc (.int .i64 0), .sc (.int .i64 0), .sl true [] .zer]), (2, .arr 1 ((List.range s).map (ringRowA n k)) true)], 3⟩) (fun s => n - s) (fun s => s ≤ n) [0, 1, 4, 5, 6] 3 ?_ ?_
  · exact ⟨[(3, 0), (0, 1), (6, 2)], 0, rfl, (by (simp only [go_sem, List.range_zero, List.map_nil, Int.natCast_zero]) <;> rfl), Nat.zero_le _⟩
  intro s hs
  have hls : ((List.range s).map (ringRowA n k)).length = s := by simp
  refine EvC.seq ?_
  refine EvC.seq (EvC.rg (by (simp only [go_sem]) <;> rfl) (by simp) ?_)
  refine EvC.cond (by (simp only [go_sem]) <;> rfl) (fun hc => ?_) (fun hc => ?_)
  rotate_left
  · refine EvC.exit ?_  -- 0
    obtain rfl : s = n := by have : ¬ (s : Int) < n := by simpa using hc
                             omega
    clear hc
    have hn0 : (s == 0) = false := by simp; omega
    refine EvC.frzD 2 (by (simp only [go_sem, hls, hn0]) <;> rfl) ?_
    refine EvC.seq (EvC.rg (by (simp only [go_sem]) <;> rfl) (by simp) ?_)
    refine EvC.ret ⟨.inl rfl, _, (by (simp only [go_sem]) <;> rfl), ?_, rfl⟩
    simp only [go_sem]
  have hsn : s < n := by have : (s : Int) < n := by simpa using hc
                         omega
  clear hc
  refine EvC.skip ?_
  refine EvC.seq ?_
  refine EvC.block ?_  -- 1
  have hI1 : inI64 ((s : Int) + 1) = true := inI64_of (by omega) (by omega)
  have hm1 : ((s : Int) + 1) % (n : Int) = (((s + 1) % n : Nat) : Int) := by simp
  have hm2 : (s : Int) % (k : Int) = ((s % k : Nat) : Int) := by simp
  have hd1 := Nat.mod_lt (s + 1) (show 0 < n by omega)
  have hd2 := Nat.mod_lt s (show 0 < k by omega)
  have hI3 : inI64 ((((s + 1) % n : Nat)) : Int) = true := inI64_of (by omega) (by omega)
  have hI4 : inI64 (((s % k : Nat)) : Int) = true := inI64_of (by omega) (by omega)
  apply EvC.drw mixed
  · apply Tr.run
    · (simp only [go_sem, hn0, hk0, hm1, hm2]) <;> rfl
    · simp only [hI1, hI3, hI4, hm1, hm2]; try simp; try omega
    apply Tr.cons
    · exact .call rfl rfl (by (simp only [go_sem]) <;> rfl) (by (simp only [go_sem]) <;> rfl) (by (simp only [go_sem]) <;> rfl) (by (simp only [go_sem]) <;> rfl) (by (simp only [go_sem]) <;> rfl) (edge_is (((s + 1) % n : Nat) : Int) ((s % k : Nat) : Int))
    apply Tr.done
    · (simp only [go_sem, hls]) <;> rfl
    · simp [room_eq, AV.norefs, AV.noref, hls]; try omega
  · kernel_rfl
  refine EvC.rg (by (simp only [go_sem]) <;> rfl) (by simpa using hI1) ?_
  have hnes : (s + 1 == 0) = false := rfl
  exact ⟨[(0, 0), (1, 1), (2, 2)], s + 1, rfl, (by (simp only [go_sem, List.range_succ, List.map_append, List.map_cons, List.map_nil, ringRowA, ringRow, edgeC, hnes, List.length_map, List.length_range, Int.natCast_add, Int.natCast_one]) <;> rfl), hsn, by omega⟩
end Go.Avl
namespace Go.Avl
open Go Go.Proofs.Try
set_option maxRecDepth 10000
set_option linter.unusedSimpArgs false

set_option maxHeartbeats 4000000 in
/-- A ring whose rows are still written. -/
theorem ring_body {n k : Nat} (h1 : 1 ≤ n ∧ n ≤ 70) (h2 : 1 ≤ k ∧ k ≤ 16) {R : AV → Mem → Nat → Prop}
    (hR : R (.ag [.sc (.int .i64 1), .sc (.int .i64 k), .tl 1000002 n false]) ((1000000, .cells [.sc (.int .i64 1), .sc (.int .i64 k), .tl 1000002 n false]) :: (1000001, .cells [.sc (.int .i64 1), .sc (.int .i64 k), .tl 1000002 n false]) :: (1000002, .arr 1 (tcell 1 n) false) :: gtab 2 edgeC (eAt (ringM n k)) n 1) 1000009) :
    BodyIs prog 35 [.sc (.int .i64 n), .sc (.int .i64 k)] [] 0 R := by
  have hn0 : decide ((n : Int) = 0) = false := decide_eq_false (by omega)
  have hk0 : decide ((k : Int) = 0) = false := decide_eq_false (by omega)
  refine BodyIs.of (nv := 2) (hid := [4, 5, 6, 11, 24, 25]) func35 rfl (by kernel_rfl) (by simp [ntmps35]) fun h0 => ?_
  rw [ntmps35, results35]
  refine EvC.seq (EvC.rg (by (simp only [go_sem]) <;> rfl) (by simp) ?_)
  refine EvC.seq (EvC.rg (by (simp only [go_sem]) <;> rfl) (by simp) ?_)
  refine EvC.seq ?_
  refine EvC.seq (EvC.rg (by (simp only [go_sem]) <;> rfl) (by simp) ?_)
  refine EvC.block ?_  -- 0
  refine EvC.ownC 3 2 1 (by (simp only [go_sem]) <;> rfl) ?_
  refine EvC.thaw 6 (by (simp only [go_sem]) <;> rfl) ?_
  refine EvC.loopS (σ := Nat) (fun s => ⟨[(0, .sc (.int .i64 n)), (1, .sc (.int .i64 k)), (4, .rf 1000000 0), (5, .rf 1000001 0), (6, .sc (.int .i64 s))], [], (1000000, .cells [.sc (.int .i64 0), .sc (.int .i64 0), .sl true [] .zer]) :: (1000001, .cells [.sc (.int .i64 1), .sc (.int .i64 k), .tl 1000002 s (s == 0)]) :: (1000002, .arr 1 (tcell 1 s) false) :: gtab 2 edgeC (eAt (ringM n k)) s 1, 1000004⟩) (fun s => n - s) (fun s => s ≤ n) [0, 1, 4, 5, 6] 1000004 ?_ ?_
  · exact ⟨[(0, 1000000), (3, 1000001), (6, 1000002)], 0, rfl, (by (simp only [go_sem, tcell, gtab_zero, List.range_zero, List.map_nil, Int.natCast_zero]) <;> rfl), Nat.zero_le _⟩
  intro s hs
  have hml := tcell_len 1 s
  refine EvC.seq ?_
  refine EvC.seq (EvC.rg (by (simp only [go_sem]) <;> rfl) (by simp) ?_)
  refine EvC.cond (by (simp only [go_sem]) <;> rfl) (fun hc => ?_) (fun hc => ?_)
  rotate_left
  · refine EvC.exit ?_  -- 0
    obtain rfl : n = s := by have : ¬ (s : Int) < n := by simpa using hc
                             omega
    have hs0 : (n == 0) = false := by simp; omega
    refine EvC.seq (EvC.rg (by (simp only [go_sem, hs0, hml]) <;> rfl) (by simp) ?_)
    refine EvC.ret ⟨.inl rfl, _, (by (simp only [go_sem]) <;> rfl), ?_⟩
    exact hR
  have hsn : s < n := by have : (s : Int) < n := by simpa using hc
                         omega
  clear hc
  have hn1 : s ≤ 1000000 := by omega
  refine EvC.skip ?_
  refine EvC.seq ?_
  refine EvC.block ?_  -- 1
  have hI1 : inI64 ((s : Int) + 1) = true := inI64_of (by omega) (by omega)
  have hm1 : ((s : Int) + 1) % (n : Int) = (((s + 1) % n : Nat) : Int) := by simp
  have hm2 : (s : Int) % (k : Int) = ((s % k : Nat) : Int) := by simp
  have hd1 := Nat.mod_lt (s + 1) (show 0 < n by omega)
  have hd2 := Nat.mod_lt s (show 0 < k by omega)
  have hI3 : inI64 ((((s + 1) % n : Nat)) : Int) = true := inI64_of (by omega) (by omega)
  have hI4 : inI64 (((s % k : Nat)) : Int) = true := inI64_of (by omega) (by omega)
  apply EvC.drw mixed  -- R5
  · apply Tr.run
    · (simp only [go_sem, hn0, hk0, hm1, hm2]) <;> rfl
    · simp only [hI1, hI3, hI4, hm1, hm2]; try simp; try omega
    apply Tr.cons
    · exact .call rfl rfl (by (simp only [go_sem]) <;> rfl) (by (simp only [go_sem]) <;> rfl) (by (simp only [go_sem]) <;> rfl) (by (simp only [go_sem]) <;> rfl) (by (simp only [go_sem]) <;> rfl) (edge_is' (((s + 1) % n : Nat) : Int) ((s % k : Nat) : Int))
    apply Tr.done
    · (simp only [go_sem, hml, mlook_mset, mset_mset_same]) <;> rfl
    · simp [room_eq, AV.norefs, AV.noref, hml]; try omega
  · kernel_rfl
  refine EvC.rg (by (simp only [go_sem]) <;> rfl) (by simpa using hI1) ?_
  have hs0 : (s + 1 == 0) = false := rfl
  have hrow : [[AV.sc (.int .i64 (((s + 1) % n : Nat) : Int)), AV.sc (.int .i64 ((s % k : Nat) : Int))]] = gcells edgeC (eAt (ringM n k) s) 1 := by
    simp [gcells, ringM_eAt hsn, edgeC, List.range_succ]
  refine ⟨segK [(1000000, 1000000), (1000001, 1000001), (1000002, 1000002)] s [(1000017, s)], s + 1, segK_ok1 (A := [(1000000, 1000000), (1000001, 1000001), (1000002, 1000002)]) rfl rfl rfl (by omega) (by omega), ?_, by omega, by omega⟩
  have hlo : ∀ k, k < s → rlook (segK [(1000000, 1000000), (1000001, 1000001), (1000002, 1000002)] s [(1000017, s)]) k = some k := fun k hk => rlook_segK_lo hk hn1 (A := [(1000000, 1000000), (1000001, 1000001), (1000002, 1000002)]) rfl
  (simp only [go_sem, hs0, hml, hrow, rlook_segK_hi hn1, List.cons_append, List.nil_append, renMem_idK_cons hn1, renMem_idK_mset hn1, mlook_mset, gcells_norefs hEn, gtab_ren 2 hEn, gtab_snoc, tcell_ren hlo, tcell_succ, Int.natCast_add, Int.natCast_one]) <;> rfl
end Go.Avl
namespace Go.Avl
open Go Go.Proofs.Try
set_option maxRecDepth 10000
set_option linter.unusedSimpArgs false

/-! ### What comes of rings -/
theorem rings_reach : ∀ n : Fin 12, ∀ k : Fin 12, if Nat.lcm (n.1 + 1) (k.1 + 1) ≤ 64 then (jq (stOf (ringM (n.1 + 1) 2) (ringM (k.1 + 1) 3) 1) 1 64).length = Nat.lcm (n.1 + 1) (k.1 + 1) else 64 < (jq (stOf (ringM (n.1 + 1) 2) (ringM (k.1 + 1) 3) 1) 1 64).length := by decide +kernel
end Go.Avl
namespace Go.Avl
open Go Go.Proofs.Try
set_option maxRecDepth 10000
set_option linter.unusedSimpArgs false

theorem par_ring {n k : Nat} (h1 : 1 ≤ n ∧ n ≤ 12) (h2 : 1 ≤ k ∧ k ≤ 12) : (Nat.lcm n k ≤ 64 ∧ ∃ M : Mach, M.rows.length = Nat.lcm n k ∧ PureIs prog 22 [.ag (ringM n 2).cells, .ag (ringM k 3).cells] (.tu [.ag [.sc (.int .i64 1), .sc (.int .i64 6), .sl M.nl (M.rows.map rowG) .full], .sc (.int .i64 0)])) ∨
    (64 < Nat.lcm n k ∧ PureIs prog 22 [.ag (ringM n 2).cells, .ag (ringM k 3).cells] (.tu [.ag [.sc (.int .i64 0), .sc (.int .i64 0), .sl true [] .zer], .sc (.int .i64 3)])) := by
  have va := ringM_valid (n := n) (k := 2) (by omega) (by omega)
  have vb := ringM_valid (n := k) (k := 3) (by omega) (by omega)
  have hp := parallel_is _ _ va.small vb.small
  rw [parallelA, if_neg (by simp [bothE_of va.check vb.check]), if_neg (by simp [ringM]), if_neg (by simp [ringM])] at hp
  have hr := rings_reach ⟨n - 1, by omega⟩ ⟨k - 1, by omega⟩
  have e1 : n - 1 + 1 = n := by omega
  have e2 : k - 1 + 1 = k := by omega
  simp only [e1, e2] at hr
  have hq : (jq (stOf (ringM n 2) (ringM k 3) 1) 1 64).length = (jQ (ringM n 2) (ringM k 3) 1).length := by rw [jQ_def]; rfl
  rw [hq] at hr
  by_cases hl : Nat.lcm n k ≤ 64
  · rw [if_pos hl] at hr
    rw [jM_tu _ (by omega)] at hp
    exact .inl ⟨hl, jM (ringM n 2) (ringM k 3) 1 _, by rw [jM_len]; exact hr, hp⟩
  · rw [if_neg hl] at hr
    rw [jointA_big (by omega)] at hp
    exact .inr ⟨by omega, hp⟩
theorem par_44 : ∃ M : Mach, PureIs prog 22 [.ag (ringM 1 4).cells, .ag (ringM 1 4).cells] (.tu [.ag [.sc (.int .i64 1), .sc (.int .i64 16), .sl M.nl (M.rows.map rowG) .full], .sc (.int .i64 0)]) := by
  have va := ringM_valid (n := 1) (k := 4) (by omega) (by omega)
  have hp := parallel_is _ _ va.small va.small
  rw [parallelA, if_neg (by simp [bothE_of va.check va.check]), if_neg (by simp [ringM]), if_neg (by simp [ringM])] at hp
  have hf : Fit (ringM 1 4) (ringM 1 4) 1 := ⟨va, va, .inr rfl, fun h => absurd h (by decide), fun _ => rfl⟩
  have h64 : (jQ (ringM 1 4) (ringM 1 4) 1).length ≤ 64 := by
    have h1 := jQ_le hf
    have h2 := reachN_le (ringM 1 4) (ringM 1 4) 1
    rw [ringM_len] at h2
    omega
  rw [jM_tu _ h64] at hp
  exact ⟨jM (ringM 1 4) (ringM 1 4) 1 _, hp⟩
theorem par_45 : PureIs prog 22 [.ag (ringM 1 4).cells, .ag (ringM 1 5).cells] (.tu [.ag [.sc (.int .i64 0), .sc (.int .i64 0), .sl true [] .zer], .sc (.int .i64 3)]) := by
  have va := ringM_valid (n := 1) (k := 4) (by omega) (by omega)
  have vb := ringM_valid (n := 1) (k := 5) (by omega) (by omega)
  have hp := parallel_is _ _ va.small vb.small
  rw [parallelA, if_neg (by simp [bothE_of va.check vb.check]), if_neg (by simp [ringM]), if_pos (by simp [ringM])] at hp
  exact hp
theorem uni_64 : ∃ M : Mach, M.rows.length = 64 ∧ PureIs prog 32 [.ag (ringM 32 2).cells, .ag (ringM 32 3).cells] (.tu [.ag [.sc (.int .i64 M.ins), .sc (.int .i64 M.outs), .sl M.nl (M.rows.map rowG) .full], .sc (.int .i64 0)]) := by
  have va := ringM_valid (n := 32) (k := 2) (by omega) (by omega)
  have vb := ringM_valid (n := 32) (k := 3) (by omega) (by omega)
  have hp := unite_is _ _ va.small vb.small
  rw [uniteA, if_neg (by simp [bothE_of va.check vb.check]), if_neg (by simp [ringM]), if_neg (by simp [ringM_len])] at hp
  exact ⟨uniM (ringM 32 2) (ringM 32 3), by rw [uniM_len, ringM_len, ringM_len], hp⟩
theorem uni_65 : PureIs prog 32 [.ag (ringM 32 2).cells, .ag (ringM 33 3).cells] (.tu [.ag [.sc (.int .i64 0), .sc (.int .i64 0), .sl true [] .zer], .sc (.int .i64 3)]) := by
  have va := ringM_valid (n := 32) (k := 2) (by omega) (by omega)
  have vb := ringM_valid (n := 33) (k := 3) (by omega) (by omega)
  have hp := unite_is _ _ va.small vb.small
  rw [uniteA, if_neg (by simp [bothE_of va.check vb.check]), if_neg (by simp [ringM]), if_pos (by simp [ringM_len])] at hp
  exact hp

/-! ### The ring with an edge that is not there -/
def deadW : Nat → Nat → Int × Int := upd2 (eAt (ringM 64 1)) 63 0 (-1, -1)
def deadM : Mach := ⟨1, 1, false, (List.range 64).map fun s => (false, (List.range 1).map (deadW s))⟩
theorem deadM_len : deadM.rows.length = 64 := by simp [deadM]
theorem deadW_at {s : Nat} (hs : s < 63) : deadW s 0 = (((s + 1 : Nat) : Int), 0) := by
  unfold deadW upd2
  rw [if_neg (by omega), ringM_eAt (by omega), Nat.mod_eq_of_lt (by omega), Nat.mod_one]; rfl
theorem deadW_last : deadW 63 0 = (-1, -1) := by unfold deadW upd2; rw [if_pos ⟨rfl, rfl⟩]
theorem deadM_eAt {s : Nat} (hs : s < 64) : eAt deadM s 0 = deadW s 0 := eAt_tab hs (by decide)
theorem deadM_valid : Valid deadM := by
  refine valid_tab (N := 1) rfl (by decide) (by decide) (by decide) fun s i hs hi => ?_
  obtain rfl : i = 0 := by omega
  by_cases h : s < 63
  · rw [deadW_at h]; right; simp only; omega
  · obtain rfl : s = 63 := by omega
    rw [deadW_last]; left; rfl
theorem fill_dead1 : PureIs prog 25 [.ag deadM.cells, .sc (.int .u8 1), .sc (.int .i64 0)] (.tu [.ag [.sc (.int .i64 0), .sc (.int .i64 0), .sl true [] .zer], .sc (.int .i64 3)]) := by
  have hp := fill_is deadM deadM_valid.small 1 0 (by decide)
  have hc : comp deadM 1 = false := by
    rw [Bool.eq_false_iff]
    intro h
    have := comp_iff.1 h 63 0 (by rw [deadM_len]; decide) (by decide)
    rw [deadM_eAt (by decide), deadW_last] at this
    cases this
  rw [fillA, if_neg (by simp [deadM_valid.check]), if_neg (by simp [deadM]), if_neg (by decide), sinksA, if_pos ⟨hc, deadM_len⟩] at hp
  exact hp
theorem ring_none {n k s : Nat} (hs : s < n) : isNone (eAt (ringM n k) s 0) = false := by
  rw [ringM_eAt hs]
  unfold isNone
  generalize (s + 1) % n = x
  have : decide ((x : Int) = -1) = false := decide_eq_false (by omega)
  simp only [this]; rfl
theorem ring_fillR (n k : Nat) (to : Nat → Int) (out : Int) : (fillR (ringM n k) n 1 to out).map (·.2) = (ringM n k).rows.map (·.2) := by
  show _ = ((List.range n).map fun s => (false, ringRow n k s)).map _
  rw [fillR, List.map_map, List.map_map]
  refine List.map_congr_left fun s hs => ?_
  have hs := List.mem_range.1 hs
  simp only [Function.comp, List.range_succ, List.range_zero, List.nil_append, List.map_cons, List.map_nil]
  rw [if_neg (by rw [ring_none hs]; decide), ringM_eAt hs]
  rfl
theorem fillR_small (m : Mach) (n N : Nat) (to : Nat → Int) (out : Int) (h : N < 1000000) : ∀ r ∈ fillR m n N to out, r.2.length < 1000000 := fun r hr => by
  simp only [fillR, List.mem_map] at hr
  obtain ⟨s, _, rfl⟩ := hr
  simpa using h
theorem fill_ring1 : ∃ rs : List Row, PureIs prog 25 [.ag (ringM 64 1).cells, .sc (.int .u8 1), .sc (.int .i64 0)] (.tu [.ag [.sc (.int .i64 1), .sc (.int .i64 1), .sl false (rs.map rowG) .full], .sc (.int .i64 0)]) ∧
    PureIs prog 21 [.ag [.sc (.int .i64 1), .sc (.int .i64 1), .sl false (rs.map rowG) .full], .sc (.int .i64 0), .ag (ringM 64 1).cells] (.sc (.bool true)) := by
  obtain ⟨n, hn⟩ : ∃ n, n = 64 := ⟨_, rfl⟩
  rw [← hn]
  have va := ringM_valid (n := n) (k := 1) (by omega) (by omega)
  have hp := fill_is (ringM n 1) va.small 1 0 (by decide)
  have hc : comp (ringM n 1) 1 = true := comp_iff.2 fun s i hs hi => by
    rw [ringM_len] at hs
    obtain rfl : i = 0 := by omega
    exact ring_none hs
  have hc' : comp (ringM n 1) (ringM n 1).ins.toNat = true := hc
  have hcn : ¬ (comp (ringM n 1) (ringM n 1).ins.toNat = false ∧ (ringM n 1).rows.length = 64) := fun h => by rw [hc'] at h; cases h.1
  rw [fillA, if_neg (by simp [va.check]), if_neg (by simp [ringM]), if_neg (by decide), sinksA, if_neg hcn, sinkRows, if_pos hc', ringM_len] at hp
  refine ⟨_, hp, ?_⟩
  exact machine_is (a := ⟨1, 1, false, fillR (ringM n 1) n 1 _ 0⟩) (b := ringM n 1) rfl rfl (ring_fillR n 1 _ 0) (by simp only [fillR_len]; omega) (fillR_small _ _ _ _ _ (by decide))
theorem fill_dead0 : ∃ rs : List Row, rs[63]? = some (false, [((63 : Int), (0 : Int))]) ∧ PureIs prog 25 [.ag deadM.cells, .sc (.int .u8 0), .sc (.int .i64 0)] (.tu [.ag [.sc (.int .i64 1), .sc (.int .i64 1), .sl false (rs.map rowG) .full], .sc (.int .i64 0)]) := by
  have hp := fill_is deadM deadM_valid.small 0 0 (by decide)
  rw [fillA, if_neg (by simp [deadM_valid.check]), if_neg (by simp [deadM]), if_pos rfl, loopsA] at hp
  refine ⟨_, ?_, hp⟩
  rw [fillR, List.getElem?_map, List.getElem?_range (by rw [deadM_len]; decide)]
  show some (false, (List.range 1).map _) = _
  have : isNone (eAt deadM 63 0) = true := by rw [deadM_eAt (by decide), deadW_last]; rfl
  simp only [List.range_succ, List.range_zero, List.nil_append, List.map_cons, List.map_nil, this, if_true]
  rfl
end Go.Avl
namespace Go.Avl
open Go Go.Proofs.Try
set_option maxRecDepth 10000
set_option linter.unusedSimpArgs false

theorem lcm_least {n k j : Nat} (hk : 1 ≤ k) (hn : 1 ≤ n) (h0 : n * j % k = 0) (h1 : 1 ≤ j) (hm : ∀ i, 1 ≤ i → i < j → n * i % k ≠ 0) : n * j = Nat.lcm n k := by
  have hd : Nat.lcm n k ∣ n * j := Nat.lcm_dvd (Nat.dvd_mul_right n j) (Nat.dvd_of_mod_eq_zero h0)
  obtain ⟨i, hi⟩ := Nat.dvd_lcm_left n k
  have hp : 0 < Nat.lcm n k := Nat.lcm_pos (by omega) (by omega)
  have hi1 : 1 ≤ i := by
    rcases Nat.eq_zero_or_pos i with h | h
    · rw [h] at hi; omega
    · exact h
  have hle := Nat.le_of_dvd (Nat.mul_pos (by omega) (by omega)) hd
  have hik : n * i % k = 0 := by rw [← hi]; exact Nat.mod_eq_zero_of_dvd (Nat.dvd_lcm_right n k)
  have : ¬ i < j := fun h => hm i hi1 h hik
  have hij : n * j ≤ n * i := Nat.mul_le_mul_left n (by omega)
  omega

set_option maxHeartbeats 8000000 in
theorem joinsKnown_is : PureIs prog 10 [] (.sc (.bool true)) := by
  refine PureIs.of (nv := 28) (hid := [29, 33, 40, 79, 181, 183, 187, 276]) func10 rfl (by kernel_rfl) (by simp [ntmps10]) fun _ => ?_
  rw [ntmps10, results10]
  refine EvC.seq (EvC.rg (by (simp only [go_sem]) <;> rfl) (by simp) ?_)
  refine EvC.seq ?_
  refine EvC.seq (EvC.rg (by (simp only [go_sem]) <;> rfl) (by simp) ?_)
  refine EvC.block ?_  -- 0
  refine EvC.loopS (σ := Nat) (fun n => ⟨[(0, .sc (.bool false)), (1, .sc (.int .i64 n))], [], [], 0⟩) (fun n => 13 - n) (fun n => 1 ≤ n ∧ n ≤ 13) [0, 1] 0 ?_ ?_
  · refine ⟨[], 1, rfl, (by (simp only [go_sem, Int.natCast_one]) <;> rfl), by omega⟩
  rintro n ⟨hn1, hn2⟩
  refine EvC.seq ?_
  refine EvC.seq (EvC.rg (by (simp only [go_sem]) <;> rfl) (by simp) ?_)
  refine EvC.cond (by (simp only [go_sem]) <;> rfl) (fun hc => ?_) (fun hc => ?_)
  rotate_left
  · -- else
    refine EvC.exit ?_  -- 0
    clear hc hn1 hn2
    have r14 := ring_is (n := 1) (k := 4) (by omega) (by omega)
    have r15 := ring_is (n := 1) (k := 5) (by omega) (by omega)
    have r322 := ring_is (n := 32) (k := 2) (by omega) (by omega)
    have r323 := ring_is (n := 32) (k := 3) (by omega) (by omega)
    have r333 := ring_is (n := 33) (k := 3) (by omega) (by omega)
    have r641 := ring_is (n := 64) (k := 1) (by omega) (by omega)
    obtain ⟨A, hA⟩ := par_44
    obtain ⟨C, hCl, hC⟩ := uni_64
    obtain ⟨Lr, hL, hLm⟩ := fill_ring1
    obtain ⟨Dr, hD63, hD⟩ := fill_dead0
    apply EvC.seq
    apply EvC.tr
    · apply Tr.run
      · (simp only [go_sem]) <;> rfl
      · simp
      apply Tr.cons
      · exact .call rfl rfl (by (simp only [go_sem]) <;> rfl) (by (simp only [go_sem]) <;> rfl) (by (simp only [go_sem]) <;> rfl) (by (simp only [go_sem]) <;> rfl) (by (simp only [go_sem]) <;> rfl) (r14)
      apply Tr.run
      · (simp only [go_sem]) <;> rfl
      · simp
      apply Tr.cons
      · exact .call rfl rfl (by (simp only [go_sem]) <;> rfl) (by (simp only [go_sem]) <;> rfl) (by (simp only [go_sem]) <;> rfl) (by (simp only [go_sem]) <;> rfl) (by (simp only [go_sem]) <;> rfl) (r14)
      apply Tr.run
      · (simp only [go_sem]) <;> rfl
      · simp
      apply Tr.cons
      · exact .call rfl rfl (by (simp only [go_sem]) <;> rfl) (by (simp only [go_sem]) <;> rfl) (by (simp only [go_sem]) <;> rfl) (by (simp only [go_sem]) <;> rfl) (by (simp only [go_sem]) <;> rfl) (hA)
      apply Tr.done
      · (simp only [go_sem]) <;> rfl
      · simp
    refine EvC.frzB 8 (by (simp only [go_sem]) <;> rfl) ?_
    apply EvC.seq
    apply EvC.tr
    · apply Tr.run
      · (simp only [go_sem]) <;> rfl
      · simp
      apply Tr.cons
      · exact .call rfl rfl (by (simp only [go_sem]) <;> rfl) (by (simp only [go_sem]) <;> rfl) (by (simp only [go_sem]) <;> rfl) (by (simp only [go_sem]) <;> rfl) (by (simp only [go_sem]) <;> rfl) (r14)
      apply Tr.run
      · (simp only [go_sem]) <;> rfl
      · simp
      apply Tr.cons
      · exact .call rfl rfl (by (simp only [go_sem]) <;> rfl) (by (simp only [go_sem]) <;> rfl) (by (simp only [go_sem]) <;> rfl) (by (simp only [go_sem]) <;> rfl) (by (simp only [go_sem]) <;> rfl) (r15)
      apply Tr.run
      · (simp only [go_sem]) <;> rfl
      · simp
      apply Tr.cons
      · exact .call rfl rfl (by (simp only [go_sem]) <;> rfl) (by (simp only [go_sem]) <;> rfl) (by (simp only [go_sem]) <;> rfl) (by (simp only [go_sem]) <;> rfl) (by (simp only [go_sem]) <;> rfl) (par_45)
      apply Tr.done
      · (simp only [go_sem]) <;> rfl
      · simp
    refine EvC.frzB 17 (by (simp only [go_sem]) <;> rfl) ?_
    apply EvC.seq
    apply EvC.tr
    · apply Tr.run
      · (simp only [go_sem]) <;> rfl
      · simp
      apply Tr.cons
      · exact .call rfl rfl (by (simp only [go_sem]) <;> rfl) (by (simp only [go_sem]) <;> rfl) (by (simp only [go_sem]) <;> rfl) (by (simp only [go_sem]) <;> rfl) (by (simp only [go_sem]) <;> rfl) (r322)
      apply Tr.run
      · (simp only [go_sem]) <;> rfl
      · simp
      apply Tr.cons
      · exact .call rfl rfl (by (simp only [go_sem]) <;> rfl) (by (simp only [go_sem]) <;> rfl) (by (simp only [go_sem]) <;> rfl) (by (simp only [go_sem]) <;> rfl) (by (simp only [go_sem]) <;> rfl) (r323)
      apply Tr.run
      · (simp only [go_sem]) <;> rfl
      · simp
      apply Tr.cons
      · exact .call rfl rfl (by (simp only [go_sem]) <;> rfl) (by (simp only [go_sem]) <;> rfl) (by (simp only [go_sem]) <;> rfl) (by (simp only [go_sem]) <;> rfl) (by (simp only [go_sem]) <;> rfl) (hC)
      apply Tr.done
      · (simp only [go_sem]) <;> rfl
      · simp
    refine EvC.frzB 26 (by (simp only [go_sem]) <;> rfl) ?_
    apply EvC.seq
    apply EvC.tr
    · apply Tr.run
      · (simp only [go_sem]) <;> rfl
      · simp
      apply Tr.cons
      · exact .call rfl rfl (by (simp only [go_sem]) <;> rfl) (by (simp only [go_sem]) <;> rfl) (by (simp only [go_sem]) <;> rfl) (by (simp only [go_sem]) <;> rfl) (by (simp only [go_sem]) <;> rfl) (r322)
      apply Tr.run
      · (simp only [go_sem]) <;> rfl
      · simp
      apply Tr.cons
      · exact .call rfl rfl (by (simp only [go_sem]) <;> rfl) (by (simp only [go_sem]) <;> rfl) (by (simp only [go_sem]) <;> rfl) (by (simp only [go_sem]) <;> rfl) (by (simp only [go_sem]) <;> rfl) (r333)
      apply Tr.run
      · (simp only [go_sem]) <;> rfl
      · simp
      apply Tr.cons
      · exact .call rfl rfl (by (simp only [go_sem]) <;> rfl) (by (simp only [go_sem]) <;> rfl) (by (simp only [go_sem]) <;> rfl) (by (simp only [go_sem]) <;> rfl) (by (simp only [go_sem]) <;> rfl) (uni_65)
      apply Tr.done
      · (simp only [go_sem]) <;> rfl
      · simp
    refine EvC.frzB 35 (by (simp only [go_sem]) <;> rfl) ?_
    apply EvC.seq  -- R17
    apply EvC.region
    refine XR.gcTo ⟨[(0, .sc (.bool false)), (6, .ia [.sc (.int .i64 1), .sc (.int .i64 16), .sl A.nl (A.rows.map rowG) .full]), (7, .sc (.int .i64 0)), (8, .ia [.sc (.int .i64 0), .sc (.int .i64 0), .sl true [] .zer]), (9, .sc (.int .i64 3)), (10, .ia [.sc (.int .i64 C.ins), .sc (.int .i64 C.outs), .sl C.nl (C.rows.map rowG) .full]), (11, .sc (.int .i64 0)), (12, .ia [.sc (.int .i64 0), .sc (.int .i64 0), .sl true [] .zer]), (13, .sc (.int .i64 3))], [], [], 0⟩ [0, 6, 7, 8, 9, 10, 11, 12, 13] [] (by rfl) (by (simp only [go_sem]) <;> rfl) ?_
    apply XR.callI rfl rfl (by (simp only [go_sem]) <;> rfl) (by (simp only [go_sem]) <;> rfl) (by (simp only [go_sem]) <;> rfl)
    refine ring_body (n := 64) (k := 1) (by decide) (by decide) ?_
    apply XR.done
    · (simp only [go_sem]) <;> rfl
    · simp [tcell_len]
    have hml := tcell_len 1 64
    have h63 : (tcell 1 64)[63]? = some [.tl 63 1 false] := tcell_get (by decide)
    have hlt := gtab_look 2 edgeC (eAt (ringM 64 1)) (n := 64) (m := 1) (s := 63) (by decide)
    have hset : mset (gtab 2 edgeC (eAt (ringM 64 1)) 64 1) 63 (.arr 2 ((gcells edgeC (eAt (ringM 64 1) 63) 1).set 0 [.sc (.int .i64 (-1)), .sc (.int .i64 (-1))]) false) = gtab 2 edgeC deadW 64 1 := gtab_set 2 edgeC (eAt (ringM 64 1)) (n := 64) (m := 1) (s := 63) (t := 0) (-1, -1) (by decide) (by decide)
    have hg0 : (gcells edgeC (eAt (ringM 64 1) 63) 1)[0]? = some [.sc (.int .i64 (eAt (ringM 64 1) 63 0).1), .sc (.int .i64 (eAt (ringM 64 1) 63 0).2)] := gcells_get edgeC (eAt (ringM 64 1) 63) (by decide)
    apply EvC.seq  -- R18
    apply EvC.drw mixed
    · apply Tr.run
      · (simp only [go_sem, hml, h63, hlt, gcells_len]) <;> rfl
      · simp
      apply Tr.cons
      · exact .call rfl rfl (by (simp only [go_sem]) <;> rfl) (by (simp only [go_sem]) <;> rfl) (by (simp only [go_sem]) <;> rfl) (by (simp only [go_sem]) <;> rfl) (by (simp only [go_sem]) <;> rfl) (edge_is' (-1) (-1))
      apply Tr.done
      · (simp only [go_sem, hml, hlt, gcells_len, hg0, hset]) <;> rfl
      · simp
    · kernel_rfl
    have hfzC : ∀ i, i < 64 → ∃ esz es fz, mlook ((1000009, .cells [.sc (.int .i64 1), .sc (.int .i64 (1 : Nat)), .tl 1000002 64 false]) :: (1000000, .cells [.sc (.int .i64 1), .sc (.int .i64 (1 : Nat)), .tl 1000002 64 false]) :: (1000001, .cells [.sc (.int .i64 1), .sc (.int .i64 (1 : Nat)), .tl 1000002 64 false]) :: (1000002, .arr 1 (tcell 1 64) false) :: gtab 2 edgeC deadW 64 1) i = some (.arr esz es fz) ∧ es.all AV.norefs = true := fun i hi => by
      have hi6 : i < 1000000 := by omega
      refine ⟨2, gcells edgeC (deadW i) 1, false, ?_, gcells_norefs hEn _ _⟩
      simp only [mlook, lo_ne hi6 1000000 (Nat.le_refl _), lo_ne hi6 1000001 (by decide), lo_ne hi6 1000002 (by decide), lo_ne hi6 1000009 (by decide), if_false, gtab_look _ _ _ hi]
    have hsnap : (tcell 1 64).map (fun c => c.map (AV.deep (snap ((1000009, .cells [.sc (.int .i64 1), .sc (.int .i64 (1 : Nat)), .tl 1000002 64 false]) :: (1000000, .cells [.sc (.int .i64 1), .sc (.int .i64 (1 : Nat)), .tl 1000002 64 false]) :: (1000001, .cells [.sc (.int .i64 1), .sc (.int .i64 (1 : Nat)), .tl 1000002 64 false]) :: (1000002, .arr 1 (tcell 1 64) false) :: gtabF 2 edgeC deadW 64 1)))) = deadM.rows.map rowC := by
      rw [tcell_snap (e := 2) (row := fun s => gcells edgeC (deadW s) 1)]
      · rw [deadM, List.map_map]
        refine List.map_congr_left fun s _ => ?_
        rw [gcells_edge]; rfl
      · intro i hi
        have hi6 : i < 1000000 := by omega
        simp only [mlook, lo_ne hi6 1000000 (Nat.le_refl _), lo_ne hi6 1000001 (by decide), lo_ne hi6 1000002 (by decide), lo_ne hi6 1000009 (by decide), if_false, gtabF_look _ _ _ hi]
      · intro i _; exact gcells_len _ _ _
    have hrn : (deadM.rows.map rowC).all AV.norefs = true := by simp [List.all_eq_true, rowC, AV.norefs, AV.noref]
    refine EvC.fzAll 64 hfzC ?_
    refine EvC.snapA 1000002 (by (simp only [go_sem, fzAll_cons (show 64 ≤ 1000000 by decide), gtab_fz, hsnap]) <;> rfl) ?_
    refine EvC.gc [0, 6, 7, 8, 9, 10, 11, 12, 13, 14] [(1000009, 0), (1000002, 1)] 2 rfl ?_
    refine EvC.frzD 1 (by (simp only [go_sem, hrn, List.length_map, deadM_len]) <;> rfl) ?_
    refine EvC.frzB 0 (by (simp only [go_sem]) <;> rfl) ?_
    have hF1 : PureIs prog 25 [.ag [.sc (.int .i64 1), .sc (.int .i64 1), .sl false (deadM.rows.map rowC) .unk], .sc (.int .u8 1), .sc (.int .i64 0)] (.tu [.ag [.sc (.int .i64 0), .sc (.int .i64 0), .sl true [] .zer], .sc (.int .i64 3)]) := fill_dead1
    have hF0 : PureIs prog 25 [.ag [.sc (.int .i64 1), .sc (.int .i64 1), .sl false (deadM.rows.map rowC) .unk], .sc (.int .u8 0), .sc (.int .i64 0)] (.tu [.ag [.sc (.int .i64 1), .sc (.int .i64 1), .sl false (Dr.map rowG) .full], .sc (.int .i64 0)]) := hD
    apply EvC.seq
    apply EvC.tr
    · apply Tr.run
      · (simp only [go_sem, Int.natCast_one]) <;> rfl
      · simp
      apply Tr.cons
      · exact .call rfl rfl (by (simp only [go_sem]) <;> rfl) (by (simp only [go_sem]) <;> rfl) (by (simp only [go_sem]) <;> rfl) (by (simp only [go_sem]) <;> rfl) (by (simp only [go_sem]) <;> rfl) (hF1)
      apply Tr.done
      · (simp only [go_sem]) <;> rfl
      · simp
    refine EvC.frzB 7 (by (simp only [go_sem]) <;> rfl) ?_
    apply EvC.seq
    apply EvC.tr
    · apply Tr.run
      · (simp only [go_sem]) <;> rfl
      · simp
      apply Tr.cons
      · exact .call rfl rfl (by (simp only [go_sem]) <;> rfl) (by (simp only [go_sem]) <;> rfl) (by (simp only [go_sem]) <;> rfl) (by (simp only [go_sem]) <;> rfl) (by (simp only [go_sem]) <;> rfl) (r641)
      apply Tr.run
      · (simp only [go_sem]) <;> rfl
      · simp
      apply Tr.cons
      · exact .call rfl rfl (by (simp only [go_sem]) <;> rfl) (by (simp only [go_sem]) <;> rfl) (by (simp only [go_sem]) <;> rfl) (by (simp only [go_sem]) <;> rfl) (by (simp only [go_sem]) <;> rfl) (hL)
      apply Tr.done
      · (simp only [go_sem]) <;> rfl
      · simp
    refine EvC.frzB 15 (by (simp only [go_sem]) <;> rfl) ?_
    apply EvC.seq
    apply EvC.tr
    · apply Tr.run
      · (simp only [go_sem, Int.natCast_one]) <;> rfl
      · simp
      apply Tr.cons
      · exact .call rfl rfl (by (simp only [go_sem]) <;> rfl) (by (simp only [go_sem]) <;> rfl) (by (simp only [go_sem]) <;> rfl) (by (simp only [go_sem]) <;> rfl) (by (simp only [go_sem]) <;> rfl) (hF0)
      apply Tr.done
      · (simp only [go_sem]) <;> rfl
      · simp
    refine EvC.frzB 23 (by (simp only [go_sem]) <;> rfl) ?_
    refine EvC.seq ?_
    have kn := nothing_is 3 .zer
    apply EvC.seq
    apply EvC.drw mixed
    · apply Tr.run
      · (simp only [go_sem, List.length_map, hCl, hD63, rowG, edgeC]) <;> rfl
      · simp [descAgg, matchKinds, matchKind]
      apply Tr.cons
      · exact .callG rfl rfl (by (simp only [go_sem]) <;> rfl) rfl (by (simp only [go_sem]) <;> rfl) (by (simp only [go_sem]) <;> rfl) (by (simp only [go_sem]) <;> rfl) (by (simp only [go_sem]) <;> rfl) (by (simp only [go_sem]) <;> rfl) (kn)
      apply Tr.run
      · (simp only [go_sem, List.length_map, hCl, hD63, rowG, edgeC]) <;> rfl
      · simp [descAgg, matchKinds, matchKind]
      apply Tr.cons
      · exact .callG rfl rfl (by (simp only [go_sem]) <;> rfl) rfl (by (simp only [go_sem]) <;> rfl) (by (simp only [go_sem]) <;> rfl) (by (simp only [go_sem]) <;> rfl) (by (simp only [go_sem]) <;> rfl) (by (simp only [go_sem]) <;> rfl) (kn)
      apply Tr.run
      · (simp only [go_sem, List.length_map, hCl, hD63, rowG, edgeC]) <;> rfl
      · simp [descAgg, matchKinds, matchKind]
      apply Tr.cons
      · exact .callG rfl rfl (by (simp only [go_sem]) <;> rfl) rfl (by (simp only [go_sem]) <;> rfl) (by (simp only [go_sem]) <;> rfl) (by (simp only [go_sem]) <;> rfl) (by (simp only [go_sem]) <;> rfl) (by (simp only [go_sem]) <;> rfl) (kn)
      apply Tr.run
      · (simp only [go_sem, List.length_map, hCl, hD63, rowG, edgeC]) <;> rfl
      · simp [descAgg, matchKinds, matchKind]
      apply Tr.cons
      · exact .callG rfl rfl (by (simp only [go_sem]) <;> rfl) rfl (by (simp only [go_sem]) <;> rfl) (by (simp only [go_sem]) <;> rfl) (by (simp only [go_sem]) <;> rfl) (by (simp only [go_sem]) <;> rfl) (by (simp only [go_sem]) <;> rfl) (r641)
      apply Tr.run
      · (simp only [go_sem, List.length_map, hCl, hD63, rowG, edgeC]) <;> rfl
      · simp [descAgg, matchKinds, matchKind]
      apply Tr.cons
      · exact .callG rfl rfl (by (simp only [go_sem]) <;> rfl) rfl (by (simp only [go_sem]) <;> rfl) (by (simp only [go_sem]) <;> rfl) (by (simp only [go_sem]) <;> rfl) (by (simp only [go_sem]) <;> rfl) (by (simp only [go_sem]) <;> rfl) (hLm)
      apply Tr.run
      · (simp only [go_sem, List.length_map, hCl, hD63, rowG, edgeC]) <;> rfl
      · simp [descAgg, matchKinds, matchKind]
      apply Tr.cons
      · exact .callG rfl rfl (by (simp only [go_sem]) <;> rfl) rfl (by (simp only [go_sem]) <;> rfl) (by (simp only [go_sem]) <;> rfl) (by (simp only [go_sem]) <;> rfl) (by (simp only [go_sem]) <;> rfl) (by (simp only [go_sem]) <;> rfl) (edge_is' 63 0)
      apply Tr.done
      · (simp only [go_sem, List.length_map, hCl, hD63, rowG, edgeC]) <;> rfl
      · simp [descAgg, matchKinds, matchKind]
    · kernel_rfl
    refine EvC.cond_false (by (simp only [go_sem]) <;> rfl) ?_
    refine EvC.skip ?_
    refine EvC.seq (EvC.rg (by (simp only [go_sem]) <;> rfl) (by simp) ?_)
    refine EvC.seq ?_
    refine EvC.seq (EvC.rg (by (simp only [go_sem]) <;> rfl) (by simp) ?_)
    clear r14 r15 r322 r323 r333 r641 hA hC hL hLm hD63 hD hml h63 hlt hset hg0 hfzC hsnap hrn hF1 hF0 kn hCl
    refine EvC.block ?_  -- 6
    refine EvC.loopS (σ := Nat × Int) (fun g => ⟨[(21, .sc (.int .i64 g.2)), (22, .sc (.int .i64 g.1))], [], [], 0⟩) (fun g => 40 - g.1) (fun g => g.1 ≤ 40 ∧ 0 ≤ g.2 ∧ g.2 < 100003) [21, 22] 0 ?_ ?_
    · refine ⟨[], (0, 1), rfl, (by (simp only [go_sem, Int.natCast_one, Int.natCast_zero]) <;> rfl), by simp only; omega, by simp only; omega⟩
    rintro ⟨r, z⟩ ⟨hr, hz0, hz⟩
    simp only at hr hz0 hz
    refine EvC.seq ?_
    refine EvC.seq (EvC.rg (by (simp only [go_sem]) <;> rfl) (by simp) ?_)
    refine EvC.cond (by (simp only [go_sem]) <;> rfl) (fun hc => ?_) (fun hc => ?_)
    rotate_left
    · refine EvC.exit ?_  -- 6
      apply EvC.seq
      apply EvC.tr
      · apply Tr.run
        · (simp only [go_sem]) <;> rfl
        · simp
        apply Tr.cons
        · exact .call rfl rfl (by (simp only [go_sem]) <;> rfl) (by (simp only [go_sem]) <;> rfl) (by (simp only [go_sem]) <;> rfl) (by (simp only [go_sem]) <;> rfl) (by (simp only [go_sem]) <;> rfl) (lives_is)
        apply Tr.done
        · (simp only [go_sem]) <;> rfl
        · simp
      refine EvC.ret ⟨.inl rfl, _, (by (simp only [go_sem]) <;> rfl), ?_, rfl⟩
      simp only [go_sem]
    have hr40 : r < 40 := by have : (r : Int) < 40 := by simpa using hc
                             omega
    clear hc
    refine EvC.skip ?_
    refine EvC.seq ?_
    refine EvC.block ?_  -- 7
    refine EvC.seq (EvC.rg (by (simp only [go_sem]) <;> rfl) (by simp) ?_)
    refine EvC.seq ?_
    refine EvC.seq (EvC.rg (by (simp only [go_sem]) <;> rfl) (by simp) ?_)
    refine EvC.block ?_  -- 8
    refine EvC.loopS (σ := Nat × Int × List Int) (fun g => ⟨[(21, .sc (.int .i64 g.2.1)), (22, .sc (.int .i64 r)), (23, .tl 0 g.1 (g.1 == 0)), (24, .sc (.int .i64 g.1))], [], [(0, .arr 1 (g.2.2.map u16C) true)], 1⟩) (fun g => 18 - g.1)
      (fun g => g.1 ≤ 18 ∧ (0 ≤ g.2.1 ∧ g.2.1 < 100003) ∧ g.2.2.length = g.1 ∧ ∀ e ∈ g.2.2, 0 ≤ e ∧ e < 65536) [21, 22, 23, 24] 1 ?_ ?_
    · exact ⟨[(2, 0)], (0, z, []), rfl, (by (simp only [go_sem, Int.natCast_zero]) <;> rfl), Nat.zero_le _, ⟨hz0, hz⟩, rfl, fun e he => by cases he⟩
    clear hz hz0
    rintro ⟨j, z, es⟩ ⟨k1, k2, k3, k4⟩
    simp only at k1 k2 k3 k4
    refine EvC.seq ?_
    refine EvC.seq (EvC.rg (by (simp only [go_sem]) <;> rfl) (by simp) ?_)
    refine EvC.cond (by (simp only [go_sem]) <;> rfl) (fun hc => ?_) (fun hc => ?_)
    rotate_left
    · refine EvC.exit ?_  -- 8
      obtain rfl : j = 18 := by have : ¬ (j : Int) < 18 := by simpa using hc
                                omega
      clear hc
      refine EvC.frz 0 (by (simp only [go_sem, List.length_map, k3]) <;> rfl) ?_
      obtain ⟨R, hR⟩ : ∃ R : Int, R = (r : Int) := ⟨_, rfl⟩
      have hRb : 0 ≤ R ∧ R < 40 := by omega
      rw [← hR]
      have hw8 : ∀ x : Int, 0 ≤ IntKind.u8.wrap x ∧ IntKind.u8.wrap x < 256 := fun x => by simp [IntKind.wrap, IntKind.bits, IntKind.signed]; omega
      have f1 : inI64 (R / 3) = true := inI64_of (by omega) (by omega)
      have f2 : inI64 (R / 2) = true := inI64_of (by omega) (by omega)
      have f3 : inI64 (R / 5) = true := inI64_of (by omega) (by omega)
      have f4 : inI64 (z / 7) = true := inI64_of (by omega) (by omega)
      have hel : es.length = 18 := k3
      refine EvC.seq (EvC.rg (by (simp only [go_sem]) <;> rfl) (by simp [f1, f2]; try omega) ?_)
      refine EvC.frzB 16 (by (simp only [go_sem]) <;> rfl) ?_
      refine EvC.seq (EvC.rg (by (simp only [go_sem, List.length_map, hel]) <;> rfl) (by simp [f3, u16C]; try omega) ?_)
      refine EvC.frzB 31 (by (simp only [go_sem]) <;> rfl) ?_
      refine EvC.seq (EvC.rg (by (simp only [go_sem]) <;> rfl) (by simp [f4]; try omega) ?_)
      refine EvC.frzB 42 (by (simp only [go_sem]) <;> rfl) ?_
      obtain ⟨X, hX⟩ : ∃ X : LM, X = ⟨IntKind.u8.wrap R, IntKind.u8.wrap (R / 3), IntKind.u8.wrap (R / 2), decide (R % 2 = 0), false, es, .unk⟩ := ⟨_, rfl⟩
      have hXo : X.Ok := by rw [hX]; exact ⟨(hw8 _).1, (hw8 _).1, (hw8 _).1, k4⟩
      obtain ⟨Y, hY⟩ : ∃ Y : LM, Y = ⟨IntKind.u8.wrap z, IntKind.u8.wrap (R / 5), IntKind.u8.wrap R, decide (R % 3 = 0), false, es.drop 5, .unk⟩ := ⟨_, rfl⟩
      have hYo : Y.Ok := by rw [hY]; exact ⟨(hw8 _).1, (hw8 _).1, (hw8 _).1, fun e he => k4 e (List.mem_of_mem_drop he)⟩
      obtain ⟨W, hW⟩ : ∃ W : List Int, W = [IntKind.u8.wrap z, IntKind.u8.wrap R, 1, 2, IntKind.u8.wrap (z / 7)] := ⟨_, rfl⟩
      have hWo : ∀ a ∈ W, 0 ≤ a ∧ a < 256 := by
        rw [hW]
        intro a ha
        simp only [List.mem_cons, List.not_mem_nil, or_false] at ha
        rcases ha with rfl | rfl | rfl | rfl | rfl
        · exact hw8 _
        · exact hw8 _
        · omega
        · omega
        · exact hw8 _
      have cX : X.cells = [.sc (.int .u8 (IntKind.u8.wrap R)), .sc (.int .u8 (IntKind.u8.wrap (R / 3))), .sc (.int .u8 (IntKind.u8.wrap (R / 2))), .sc (.bool (decide (R % 2 = 0))), .sl false (es.map u16C) .unk] := by rw [hX]; rfl
      have cY : Y.cells = [.sc (.int .u8 (IntKind.u8.wrap z)), .sc (.int .u8 (IntKind.u8.wrap (R / 5))), .sc (.int .u8 (IntKind.u8.wrap R)), .sc (.bool (decide (R % 3 = 0))), .sl false ((es.map u16C).drop 5) .unk] := by rw [hY, LM.cells, List.map_drop]
      have cW : W.map u8C = [[.sc (.int .u8 (IntKind.u8.wrap z))], [.sc (.int .u8 (IntKind.u8.wrap R))], [.sc (.int .u8 1)], [.sc (.int .u8 2)], [.sc (.int .u8 (IntKind.u8.wrap (z / 7)))]] := by rw [hW]; rfl
      have c4 := joinsParallel_is hXo hYo false W .full hWo
      have c6 := joinsFill_is hXo (IntKind.u8.wrap (R % 3)) (R % 4 - 1) (hw8 _)
      have c7 := fun nl c => joinsRestrict_is hXo nl (([2, 0, 1] : List Int).drop (R % 3).toNat) c false W .full hWo
      have c8 := joinsUnite_is hXo hYo false W .full hWo
      have c12 := mOf_is hYo
      have c9 := joinsErrors_is Y.mach hXo (by have := (LM.valid hYo).rows; omega)
      simp only [List.map_drop] at c7
      rw [cX, cY, cW] at c4 c8
      rw [cX, cW] at c7
      rw [cX] at c6 c9
      rw [cY] at c12
      clear cX cY cW hX hY hW
      have f5 : inI64 (R % 4 - 1) = true := inI64_of (by omega) (by omega)
      apply EvC.seq
      apply EvC.drw mixed
      · apply Tr.run
        · (simp only [go_sem]) <;> rfl
        · simp [f5]; try omega
        apply Tr.cons
        · exact .call rfl rfl (by (simp only [go_sem]) <;> rfl) (by (simp only [go_sem]) <;> rfl) (by (simp only [go_sem]) <;> rfl) (by (simp only [go_sem]) <;> rfl) (by (simp only [go_sem]) <;> rfl) (c4)
        apply Tr.run
        · (simp only [go_sem]) <;> rfl
        · simp [f5]; try omega
        apply Tr.cons
        · exact .callG rfl rfl (by (simp only [go_sem]) <;> rfl) rfl (by (simp only [go_sem]) <;> rfl) (by (simp only [go_sem]) <;> rfl) (by (simp only [go_sem]) <;> rfl) (by (simp only [go_sem]) <;> rfl) (by (simp only [go_sem]) <;> rfl) (c6)
        apply Tr.run
        · (simp only [go_sem]) <;> rfl
        · simp [f5]; try omega
        apply Tr.cons
        · exact .callG rfl rfl (by (simp only [go_sem]) <;> rfl) rfl (by (simp only [go_sem]) <;> rfl) (by (simp only [go_sem]) <;> rfl) (by (simp only [go_sem]) <;> rfl) (by (simp only [go_sem]) <;> rfl) (by (simp only [go_sem]) <;> rfl) (c7 _ _)
        apply Tr.run
        · (simp only [go_sem]) <;> rfl
        · simp [f5]; try omega
        apply Tr.cons
        · exact .callG rfl rfl (by (simp only [go_sem]) <;> rfl) rfl (by (simp only [go_sem]) <;> rfl) (by (simp only [go_sem]) <;> rfl) (by (simp only [go_sem]) <;> rfl) (by (simp only [go_sem]) <;> rfl) (by (simp only [go_sem]) <;> rfl) (c8)
        apply Tr.run
        · (simp only [go_sem]) <;> rfl
        · simp [f5]; try omega
        apply Tr.cons
        · exact .callG rfl rfl (by (simp only [go_sem]) <;> rfl) rfl (by (simp only [go_sem]) <;> rfl) (by (simp only [go_sem]) <;> rfl) (by (simp only [go_sem]) <;> rfl) (by (simp only [go_sem]) <;> rfl) (by (simp only [go_sem]) <;> rfl) (c12)
        apply Tr.run
        · (simp only [go_sem]) <;> rfl
        · simp [f5]; try omega
        apply Tr.cons
        · exact .callG rfl rfl (by (simp only [go_sem]) <;> rfl) rfl (by (simp only [go_sem]) <;> rfl) (by (simp only [go_sem]) <;> rfl) (by (simp only [go_sem]) <;> rfl) (by (simp only [go_sem]) <;> rfl) (by (simp only [go_sem]) <;> rfl) (c9)
        apply Tr.done
        · (simp only [go_sem]) <;> rfl
        · simp [f5]; try omega
      · kernel_rfl
      refine EvC.cond_false (by (simp only [go_sem]) <;> rfl) ?_
      refine EvC.skip ?_
      refine EvC.rg (by (simp only [go_sem]) <;> rfl) (by exact inI64_of (by omega) (by omega)) ?_
      have hr1 : R + 1 = ((r + 1 : Nat) : Int) := by omega
      exact ⟨[], (r + 1, z), rfl, (by (simp only [go_sem, hr1]) <;> rfl), ⟨by simp only; omega, k2.1, k2.2⟩, by simp only; omega⟩
    have hj : j < 18 := by have : (j : Int) < 18 := by simpa using hc
                           omega
    clear hc
    obtain ⟨J, hJ⟩ : ∃ J : Int, J = (j : Int) := ⟨_, rfl⟩
    obtain ⟨z', hz'⟩ : ∃ z' : Int, z' = (z * 31 + 7 * J + 11) % 100003 := ⟨_, rfl⟩
    have g1 : inI64 (z * 31) = true := inI64_of (by omega) (by omega)
    have g2 : inI64 (7 * J) = true := inI64_of (by omega) (by omega)
    have g3 : inI64 (z * 31 + 7 * J) = true := inI64_of (by omega) (by omega)
    have g4 : inI64 (z * 31 + 7 * J + 11) = true := inI64_of (by omega) (by omega)
    have hI12 : inI64 (J + 1) = true := inI64_of (by omega) (by omega)
    have g5 : 0 ≤ z' ∧ z' < 100003 := by omega
    obtain ⟨e, he⟩ : ∃ e, e = IntKind.u16.wrap z' := ⟨_, rfl⟩
    have heb : 0 ≤ e ∧ e < 65536 := by rw [he]; simp [IntKind.wrap, IntKind.bits, IntKind.signed]; omega
    rw [← hJ]
    refine EvC.skip ?_
    refine EvC.seq ?_
    refine EvC.block ?_  -- 9
    refine EvC.seq (EvC.rg (by (simp only [go_sem, ← hz']) <;> rfl) (by simp [g1, g2, g3, g4]; omega) ?_)
    clear hz'
    refine EvC.rg (by (simp only [go_sem, List.length_map, k3, ← he]) <;> rfl) (by simp [room_eq, AV.norefs, AV.noref, k3]; try omega) ?_
    refine EvC.rg (by (simp only [go_sem]) <;> rfl) (by simpa using hI12) ?_
    have hnj : (j + 1 == 0) = false := rfl
    have hj1 : J + 1 = ((j + 1 : Nat) : Int) := by omega
    exact ⟨[(0, 0)], (j + 1, z', es ++ [e]), rfl, (by (simp only [go_sem, hj1, List.map_append, List.map_cons, List.map_nil, u16C, hnj, ← he]) <;> rfl), ⟨by simp only; omega, g5, by simp [k3], fun x hx => by
      rcases List.mem_append.1 hx with hx | hx
      · exact k4 x hx
      · simp at hx; omega⟩, by simp only; omega⟩
  have hn12 : n ≤ 12 := by have : (n : Int) ≤ 12 := by simpa using hc
                           omega
  clear hc
  refine EvC.skip ?_
  refine EvC.seq ?_
  refine EvC.block ?_  -- 1
  refine EvC.seq (EvC.rg (by (simp only [go_sem]) <;> rfl) (by simp) ?_)
  refine EvC.block ?_  -- 2
  refine EvC.loopS (σ := Nat) (fun k => ⟨[(0, .sc (.bool false)), (1, .sc (.int .i64 n)), (2, .sc (.int .i64 k))], [], [], 0⟩) (fun k => 13 - k) (fun k => 1 ≤ k ∧ k ≤ 13) [0, 1, 2] 0 ?_ ?_
  · refine ⟨[], 1, rfl, (by (simp only [go_sem, Int.natCast_one]) <;> rfl), by omega⟩
  rintro k ⟨hk1, hk2⟩
  refine EvC.seq ?_
  refine EvC.seq (EvC.rg (by (simp only [go_sem]) <;> rfl) (by simp) ?_)
  refine EvC.cond (by (simp only [go_sem]) <;> rfl) (fun hc => ?_) (fun hc => ?_)
  rotate_left
  · -- else
    refine EvC.exit ?_  -- 2
    refine EvC.rg (by (simp only [go_sem]) <;> rfl) (by exact inI64_of (by omega) (by omega)) ?_
    exact ⟨[], n + 1, rfl, (by (simp only [go_sem, Int.natCast_add, Int.natCast_one]) <;> rfl), by omega, by omega⟩
  have hk12 : k ≤ 12 := by have : (k : Int) ≤ 12 := by simpa using hc
                           omega
  clear hc
  have hk0 : decide ((k : Int) = 0) = false := decide_eq_false (by omega)
  refine EvC.skip ?_
  refine EvC.seq ?_
  refine EvC.block ?_  -- 3
  refine EvC.seq (EvC.rg (by (simp only [go_sem]) <;> rfl) (by simp) ?_)
  refine EvC.seq ?_
  refine EvC.block ?_  -- 4
  refine EvC.loopS (σ := Nat) (fun j => ⟨[(0, .sc (.bool false)), (1, .sc (.int .i64 n)), (2, .sc (.int .i64 k)), (3, .sc (.int .i64 (n * j : Nat)))], [], [], 0⟩) (fun j => k - j) (fun j => 1 ≤ j ∧ j ≤ k ∧ ∀ i, 1 ≤ i → i < j → n * i % k ≠ 0) [0, 1, 2, 3] 0 ?_ ?_
  · refine ⟨[], 1, rfl, (by (simp only [go_sem, Nat.mul_one]) <;> rfl), by omega, by omega, fun i h1 h2 => by omega⟩
  rintro j ⟨hj1, hj2, hj3⟩
  have hnj : n * j ≤ 12 * 12 := Nat.mul_le_mul hn12 (by omega)
  have hmod : ((n * j : Nat) : Int) % (k : Int) = ((n * j % k : Nat) : Int) := by simp
  have hml := Nat.mod_lt (n * j) (show 0 < k by omega)
  have hIm : inI64 ((n * j % k : Nat) : Int) = true := inI64_of (by omega) (by omega)
  refine EvC.seq ?_
  refine EvC.seq (EvC.rg (by (simp only [go_sem, hk0, hmod]) <;> rfl) (by simp [hIm]; try omega) ?_)
  refine EvC.cond (by (simp only [go_sem]) <;> rfl) (fun hc => ?_) (fun hc => ?_)
  · have hnz : ¬ n * j % k = 0 := by intro h; rw [h] at hc; simp at hc
    have hjk : j < k := by
      rcases Nat.lt_or_eq_of_le hj2 with h | rfl
      · exact h
      · exact absurd (Nat.mul_mod_left n j) hnz
    refine EvC.skip ?_
    refine EvC.block ?_  -- 5
    refine EvC.rg (by (simp only [go_sem]) <;> rfl) (by exact inI64_of (by omega) (by omega)) ?_
    have hs : ((n * j : Nat) : Int) + (n : Int) = ((n * (j + 1) : Nat) : Int) := by rw [Nat.mul_succ]; exact (Int.natCast_add _ _).symm
    exact ⟨[], j + 1, rfl, (by (simp only [go_sem, hs]) <;> rfl), ⟨by omega, hjk, fun i h1 h2 => by
      rcases Nat.lt_or_eq_of_le (Nat.le_of_lt_succ h2) with h | rfl
      · exact hj3 i h1 h
      · exact hnz⟩, by omega⟩
  refine EvC.exit ?_  -- 4
  have hz : n * j % k = 0 := by
    by_cases h : n * j % k = 0
    · exact h
    · have : ¬ ((n * j % k : Nat) : Int) = 0 := by omega
      generalize n * j % k = x at *
      simp_all
  clear hc
  have hl := lcm_least hk1 hn1 hz hj1 hj3
  have r1 := ring_is (n := n) (k := 2) (by omega) (by omega)
  have r2 := ring_is (n := k) (k := 3) (by omega) (by omega)
  have hp := par_ring (n := n) (k := k) ⟨hn1, hn12⟩ ⟨hk1, hk12⟩
  rw [← hl] at hp
  generalize n * j = l at *
  rcases hp with ⟨hl1, M, hM, hp⟩ | ⟨hl1, hp⟩
  · have d1 : decide ((64 : Int) < l) = false := decide_eq_false (by omega)
    have d2 : decide ((l : Int) ≤ 64) = true := decide_eq_true (by omega)
    apply EvC.seq
    apply EvC.tr
    · apply Tr.run
      · (simp only [go_sem, Mach.cells]) <;> rfl
      · simp
      apply Tr.cons
      · exact .call rfl rfl (by (simp only [go_sem]) <;> rfl) (by (simp only [go_sem]) <;> rfl) (by (simp only [go_sem]) <;> rfl) (by (simp only [go_sem]) <;> rfl) (by (simp only [go_sem]) <;> rfl) (r1)
      apply Tr.run
      · (simp only [go_sem, Mach.cells]) <;> rfl
      · simp
      apply Tr.cons
      · exact .call rfl rfl (by (simp only [go_sem]) <;> rfl) (by (simp only [go_sem]) <;> rfl) (by (simp only [go_sem]) <;> rfl) (by (simp only [go_sem]) <;> rfl) (by (simp only [go_sem]) <;> rfl) (r2)
      apply Tr.run
      · (simp only [go_sem, Mach.cells]) <;> rfl
      · simp
      apply Tr.cons
      · exact .call rfl rfl (by (simp only [go_sem]) <;> rfl) (by (simp only [go_sem]) <;> rfl) (by (simp only [go_sem]) <;> rfl) (by (simp only [go_sem]) <;> rfl) (by (simp only [go_sem]) <;> rfl) (hp)
      apply Tr.done
      · (simp only [go_sem]) <;> rfl
      · simp
    refine EvC.frzB 12 (by (simp only [go_sem]) <;> rfl) ?_
    apply EvC.seq
    apply EvC.tr
    · apply Tr.run
      · (simp only [go_sem, d1, d2, List.length_map, hM, decide_true]) <;> rfl
      · simp
      apply Tr.cons
      · exact .skipv (.sc (.bool true)) rfl rfl (by (simp only [go_sem]) <;> rfl) (by (simp only [go_sem]) <;> rfl)
      apply Tr.done
      · (simp only [go_sem, d1, d2, List.length_map, hM, decide_true]) <;> rfl
      · simp
    refine EvC.cond_false (by (simp only [go_sem]) <;> rfl) ?_
    refine EvC.skip ?_
    refine EvC.rg (by (simp only [go_sem]) <;> rfl) (by exact inI64_of (by omega) (by omega)) ?_
    exact ⟨[], k + 1, rfl, (by (simp only [go_sem, Int.natCast_add, Int.natCast_one]) <;> rfl), by omega, by omega⟩
  · have d1 : decide ((64 : Int) < l) = true := decide_eq_true (by omega)
    have d2 : decide ((l : Int) ≤ 64) = false := decide_eq_false (by omega)
    apply EvC.seq
    apply EvC.tr
    · apply Tr.run
      · (simp only [go_sem, Mach.cells]) <;> rfl
      · simp
      apply Tr.cons
      · exact .call rfl rfl (by (simp only [go_sem]) <;> rfl) (by (simp only [go_sem]) <;> rfl) (by (simp only [go_sem]) <;> rfl) (by (simp only [go_sem]) <;> rfl) (by (simp only [go_sem]) <;> rfl) (r1)
      apply Tr.run
      · (simp only [go_sem, Mach.cells]) <;> rfl
      · simp
      apply Tr.cons
      · exact .call rfl rfl (by (simp only [go_sem]) <;> rfl) (by (simp only [go_sem]) <;> rfl) (by (simp only [go_sem]) <;> rfl) (by (simp only [go_sem]) <;> rfl) (by (simp only [go_sem]) <;> rfl) (r2)
      apply Tr.run
      · (simp only [go_sem, Mach.cells]) <;> rfl
      · simp
      apply Tr.cons
      · exact .call rfl rfl (by (simp only [go_sem]) <;> rfl) (by (simp only [go_sem]) <;> rfl) (by (simp only [go_sem]) <;> rfl) (by (simp only [go_sem]) <;> rfl) (by (simp only [go_sem]) <;> rfl) (hp)
      apply Tr.done
      · (simp only [go_sem]) <;> rfl
      · simp
    refine EvC.frzB 12 (by (simp only [go_sem]) <;> rfl) ?_
    apply EvC.seq
    apply EvC.tr
    · apply Tr.run
      · (simp only [go_sem, d1, d2, List.length_map]) <;> rfl
      · simp
      apply Tr.cons
      · exact .callG rfl rfl (by (simp only [go_sem]) <;> rfl) rfl (by (simp only [go_sem]) <;> rfl) (by (simp only [go_sem]) <;> rfl) (by (simp only [go_sem]) <;> rfl) (by (simp only [go_sem]) <;> rfl) (by (simp only [go_sem]) <;> rfl) (nothing_is 3 .zer)
      apply Tr.done
      · (simp only [go_sem, d1, d2, List.length_map]) <;> rfl
      · simp
    refine EvC.cond_false (by (simp only [go_sem]) <;> rfl) ?_
    refine EvC.skip ?_
    refine EvC.rg (by (simp only [go_sem]) <;> rfl) (by exact inI64_of (by omega) (by omega)) ?_
    exact ⟨[], k + 1, rfl, (by (simp only [go_sem, Int.natCast_add, Int.natCast_one]) <;> rfl), by omega, by omega⟩
end Go.Avl
namespace Go.Proofs.Ytbiifplfohnpeaa
open Go Go.Avl Go.Proofs Go.ChangeShapes Go.RowKit

set_option maxRecDepth 100000 in
theorem joinsKnown_lifted (os : Os) (started : os.Started) (H : Type) (enc : TypeId × Value → H) :
    ReturnsInHanded {} Try.checked os 10 .any (Rows.joinsKnownSpec.pre6 enc Try.prog Try.f10 Rows.joinsKnownRow.domain false) (Rows.joinsKnownSpec.post enc Try.prog Try.f10 false true false false) := by
  refine returnsInHanded_of_change_sized (C := Try.checked) Try.own started (by kernel_rfl) Try.func10
    (ChangeSpec.witness6 (enc := enc) (C := Try.checked) false ⟨#[], #[], []⟩ 8 (by kernel_rfl) (by kernel_rfl) (by kernel_rfl) (by kernel_rfl)) ?_
  intro W base args ds gs before hval hW _ hz _
  have hW' := hW
  obtain ⟨p, q, hA, hV, rfl, _, _⟩ := hW'
  obtain ⟨rfl, rfl⟩ := trodVars_none hV
  have hA' : DataW.TrodAll enc Try.prog W 0 (fun _ => true) true [] args.toList ds p := by rw [← show Try.f10.params.toList = [] from rfl]; exact hA
  obtain ⟨rfl, rfl, rfl⟩ := trodAll_none hA'
  have hz' : (DataW.weightsEach Try.prog [] []).all (· ≤ reachBytes) = true := hz
  have hf := fits_each (P := Try.prog) (ts := []) (l := []) fun n hn => by simpa using List.all_eq_true.1 hz' n hn
  exact law_calls Try.laidOut (by kernel_rfl) rfl (by kernel_rfl) rfl rfl joinsKnown_is ⟨rfl, fun _ h => absurd h (Nat.not_lt_zero _)⟩ hW

theorem joinsKnown_holds : Rows.JoinsKnownSaid :=
  OpenClaim.holds_of_wide 10 Try.f10 rfl rfl rfl rfl rfl rfl rfl ⟨rfl, rfl, rfl, rfl, rfl⟩ rfl rfl rfl rfl rfl (by kernel_rfl) Try.func10 (by kernel_rfl)
    (of_decide_eq_true (by kernel_rfl)) (by unfold Func.isWrapper; first | (rw [if_pos (by decide +kernel)]; kernel_rfl) | (rw [if_neg (by decide +kernel)]; exact ⟨rfl, rfl⟩))
    (fun os started H enc _ => joinsKnown_lifted os started H enc)
#print axioms joinsKnown_holds
end Go.Proofs.Ytbiifplfohnpeaa
