/-
  live11 returns true.
  Lemmas.
-/
import Derived.Test.YtnolphljopdomaaGreatDoorPart17
set_option linter.unusedSimpArgs false
set_option linter.unusedVariables false
set_option linter.unnecessarySimpa false
set_option linter.deprecated false
namespace Go.Avl
open Go Go.Proofs
set_option maxRecDepth 100000
noncomputable def known : List Kn := [kn28, kn29, kn30, kn14, kn31, kn32, kn33, kn34, kn8, kn35, kn6, kn9, kn17, kn36]
theorem known_ok : ∀ k ∈ known, PureIs Tryz.prog k.f k.xs k.r := by
 intro k hk
 simp only [known, List.mem_cons, List.not_mem_nil, or_false] at hk
 rcases hk with rfl | rfl | rfl | rfl | rfl | rfl | rfl | rfl | rfl | rfl | rfl | rfl | rfl | rfl
 ·exact kn28_ok
 ·exact kn29_ok
 ·exact kn30_ok
 ·exact kn14_ok
 ·exact kn31_ok
 ·exact kn32_ok
 ·exact kn33_ok
 ·exact kn34_ok
 ·exact kn8_ok
 ·exact kn35_ok
 ·exact kn6_ok
 ·exact kn9_ok
 ·exact kn17_ok
 ·exact kn36_ok
theorem live12_ev : evP Tryz.prog (tabK known) 3000 16 12 [] = some (.sc (.bool true)) := by kernel_rfl
theorem live12_is : PureIs Tryz.prog 12 [] (.sc (.bool true)) := .ev (tabK_ok known_ok) noNum mixedOk live12_ev
open Go Go.Proofs.Tryz
set_option maxRecDepth 10000
set_option maxHeartbeats 4000000 in
theorem copyO_is {m : Mach} (hv : Valid m) {N : Nat} (hN : m.ins = (N : Int)) {R : AV → Mem → Nat → Prop}
  (hR : R (.ag [.sc (.int .i64 m.ins), .sc (.int .i64 m.outs), .tl 1000002 m.rows.length false]) ((1000000, .cells [.sc (.int .i64 m.ins), .sc (.int .i64 m.outs), .tl 1000002 m.rows.length false]) :: (1000001, .cells [.sc (.int .i64 m.ins), .sc (.int .i64 m.outs), .tl 1000002 m.rows.length false]) :: (1000002, .arr 1 (ocell N m.rows.length) false) :: otab 2 edgeC (eAt m) m.rows.length N) 3000007) :
  BodyIs prog 18 [.ag m.cells] [] 3 R := by
 have hrw := hv.rows
 have hin := hv.ins
 obtain ⟨n, hn⟩ : ∃ n, n = m.rows.length := ⟨_, rfl⟩
 rw [← hn] at hrw hR
 refine BodyIs.of (nv := 5) (hid := [14, 26]) func18 rfl (by kernel_rfl) (by simp [ntmps18]) fun h0 => ?_
 rw [ntmps18, results18]
 refine EvC.a ?_ (by simp only [go_sem, Mach.cells] <;> rfl)
 refine EvC.z 3 ?_
 refine EvC.a ?_
 refine EvC.seq ?_
 refine EvC.a ?_
 refine EvC.block ?_
 refine EvC.ownC 10 2 1 (by simp only [go_sem] <;> rfl) ?_
 refine EvC.thaw 13 (by simp only [go_sem] <;> rfl) ?_
 refine EvC.loopS (σ := Nat) (fun s => ⟨[(1, .ia m.cells), (2, .rf 1000000 0), (3, .rf 1000001 0), (4, .sc (.int .i64 s))], [], (1000000, .cells [.sc (.int .i64 0), .sc (.int .i64 0), .sl true [] .zer]) :: (1000001, .cells [.sc (.int .i64 m.ins), .sc (.int .i64 m.outs), .tl 1000002 s (s == 0)]) :: (1000002, .arr 1 (ocell N s) false) :: otab 2 edgeC (eAt m) s N, 3000000⟩) (fun s => n - s) (fun s => s ≤ n) [1, 2, 3, 4] 3000000 ?_ ?_
 ·exact ⟨[(4, 1000000), (10, 1000001), (13, 1000002)], 0, rfl, (by simp only [go_sem, Mach.cells, ocell, otab_zero, List.range_zero, List.map_nil, Int.natCast_zero] <;> rfl), Nat.zero_le _⟩
 intro s hs
 have hml := ocell_len N s
 refine EvC.seq ?_
 refine EvC.a ?_ (by simp only [go_sem, Mach.cells, List.length_map, ← hn] <;> rfl)
 refine EvC.cd (fun hc => ?_) (fun hc => ?_)
 rotate_left
 ·refine EvC.exit ?_
  obtain rfl : n = s := by have : ¬ s < n := by simpa using hc
                           omega
  have hs0 : (n == 0) = false := by simp; omega
  refine EvC.a ?_ (by simp only [go_sem, hs0, hml] <;> rfl)
  refine EvC.ret ⟨.inl rfl, _, (by simp only [go_sem] <;> rfl), ?_⟩
  exact hR
 have hsl : s < n := by simpa using hc
 clear hc
 have hn1 : s ≤ 1000000 := by omega
 have hs0 : (s + 1 == 0) = false := rfl
 have he : m.rows[s]? = some (m.rows[s]'(by omega)) := List.getElem?_eq_getElem (by omega)
 have hrN : (m.rows[s]'(by omega)).2.length = N := by have := (hv.row _ (List.getElem_mem (show s < m.rows.length by omega))).1; omega
 generalize m.rows[s]'(by omega) = r at he hrN
 have hrow := row_gcells he hrN
 have hgl := gcells_len edgeC (eAt m s) N
 refine EvC.skip ?_
 refine EvC.seq ?_
 refine EvC.block ?_
 refine EvC.dL mixed ?_ (h := by simp only [go_sem, Mach.cells, he, rowC, hrow, hgl, hml, mlook_mset, mset_mset_same] <;> rfl) (hok := by simp [room_eq, gcells_all (C := edgeC) (e := 2) (fun _ => rfl), hgl, hml]; try omega)
 refine EvC.bi ?_
 refine ⟨osegK [(1000000, 1000000), (1000001, 1000001), (1000002, 1000002)] s [(3000013, 2000000 + s)], s + 1, osegK_ok1 (A := [(1000000, 1000000), (1000001, 1000001), (1000002, 1000002)]) rfl rfl rfl rfl rfl (by decide) (by decide) (by omega) (by omega), ?_, by omega, by omega⟩
 have hlo : ∀ k, k < s → rlook (osegK [(1000000, 1000000), (1000001, 1000001), (1000002, 1000002)] s [(3000013, 2000000 + s)]) (2000000 + k) = some (2000000 + k) := fun k hk => rlook_osegK_lo hk hn1 (A := [(1000000, 1000000), (1000001, 1000001), (1000002, 1000002)]) rfl
 simp only [go_sem, Mach.cells, hs0, hml, rlook_osegK_hi hn1, List.cons_append, List.nil_append, renMem_oK_cons hn1, renMem_oK_mset hn1, mlook_mset, gcells_norefs hEn, otab_ren 2 hEn, otab_snoc, ocell_ren hlo, ocell_succ, Int.natCast_add, Int.natCast_one] <;> rfl
def cpM (m : Mach) (N n : Nat) (W : Nat → Nat → Int × Int) : Mem :=
 (1000000, .cells [.sc (.int .i64 m.ins), .sc (.int .i64 m.outs), .tl 1000002 n false]) :: (1000001, .cells [.sc (.int .i64 m.ins), .sc (.int .i64 m.outs), .tl 1000002 n false]) :: (1000002, .arr 1 (ocell N n) false) :: otab 2 edgeC W n N
theorem cpM_ren {m : Mach} {N n : Nat} (hn1 : n ≤ 1000000) (W : Nat → Nat → Int × Int) : renMem (cpM m N n W) (osegK [(1000000, 1000000), (1000001, 1000001), (1000002, 1000002)] n []) (osegK [(1000000, 1000000), (1000001, 1000001), (1000002, 1000002)] n []) = cpM m N n W := by
 have hlo : ∀ k, k < n → rlook (osegK [(1000000, 1000000), (1000001, 1000001), (1000002, 1000002)] n []) (2000000 + k) = some (2000000 + k) := fun k hk => rlook_osegK_lo hk hn1 (A := [(1000000, 1000000), (1000001, 1000001), (1000002, 1000002)]) rfl
 unfold cpM
 rw [renMem_osegK]
 simp only [go_sem, renMem, rlook_osegK_hi hn1, List.cons_append, List.nil_append, List.append_nil, renMem_oK_cons hn1, otab_ren 2 hEn, ocell_ren hlo, ite_self] <;> rfl
theorem cpM_framed {m : Mach} {N n : Nat} (hn1 : n ≤ 1000000) (W : Nat → Nat → Int × Int) {X : Mem} (hX : (X.all fun p => decide (p.1 < 1000000)) = true) :
  Framed X (.ag [.sc (.int .i64 m.ins), .sc (.int .i64 m.outs), .tl 1000002 n false]) (cpM m N n W) 3000007 := by
 have hl : ∀ k, 1000000 ≤ k → mlook X k = none := fun k hk => by
  clear hn1
  induction X with
  | nil => rfl
  | cons p X ih =>
    obtain ⟨i, o⟩ := p
    simp only [List.all_cons, Bool.and_eq_true, decide_eq_true_eq] at hX
    simp only [mlook]
    rw [if_neg (by omega)]
    exact ih hX.2
 refine ⟨osegK [(1000000, 1000000), (1000001, 1000001), (1000002, 1000002)] n [], osegK_ok (A := [(1000000, 1000000), (1000001, 1000001), (1000002, 1000002)]) rfl rfl rfl hn1 (by omega), cpM_ren hn1 W, ?_, ?_⟩
 ·simp only [go_sem, rlook_osegK_hi hn1, List.cons_append, List.nil_append, List.append_nil] <;> rfl
 ·rw [List.all_eq_true]
  intro p hp
  rw [osegK, List.append_nil] at hp
  rcases List.mem_append.1 hp with hp | hp
  ·simp only [List.mem_cons, List.mem_nil_iff, or_false] at hp
   rcases hp with rfl | rfl | rfl <;> simp [hl]
  ·obtain ⟨i, hi, rfl⟩ := mem_oK hp
   simp [hl (2000000 + i) (by omega)]
def plN (pl : List Int) (s : Nat) : Nat := ((pl[s]?).getD 0).toNat
def dE (pl : List Int) (e : Int × Int) : Int × Int := if 0 ≤ e.1 then ((pl[e.1.toNat]?).getD 0, e.2) else e
def dRow (pl : List Int) (a : Mach) (s : Nat) : Nat → (Nat → Nat → Int × Int) → Nat → Nat → Int × Int
 | 0, W => W
 | i + 1, W => upd2 (dRow pl a s i W) (plN pl s) i (dE pl (eAt a s i))
def dTab (pl : List Int) (a : Mach) (N : Nat) : Nat → Nat → Nat → Int × Int
 | 0 => eAt a
 | s + 1 => dRow pl a s N (dTab pl a N s)
def dM (a : Mach) (n N : Nat) (W : Nat → Nat → Int × Int) (pl : List Int) : Mem :=
 (1000000, .cells [.sc (.int .i64 a.ins), .sc (.int .i64 a.outs), .tl 1000001 n false]) :: (1000001, .arr 1 (ocell N n) false) :: (otab 2 edgeC W n N ++ [(0, .cells [.sc (.int .i64 0), .sc (.int .i64 0), .sl true [] .zer]), (1, .cells [.sc (.int .i64 0), .sc (.int .i64 0), .sl true [] .zer]), (2, .arr 1 (pl.map intC) false)])
def dB (a : Mach) (n N : Nat) (pl : List Int) : Mach := ⟨a.ins, a.outs, false, (List.range n).map fun s => (false, (List.range N).map (dTab pl a N n s))⟩
def dC (b : Mach) (n N k i : Nat) (e : Int × Int) : Mach := ⟨b.ins, b.outs, false, (List.range n).map fun s => (false, (List.range N).map (upd2 (eAt b) k i e s))⟩
def dRes (a : Mach) (p0 p1 q0 q1 : Int) (e : Int × Int) : Mach :=
 if checkM (dC (dB a a.rows.length a.ins.toNat (permL a.rows.length p0 p1)) a.rows.length a.ins.toNat (q0 % a.rows.length).toNat (q1 % a.ins).toNat e) = 0 then dC (dB a a.rows.length a.ins.toNat (permL a.rows.length p0 p1)) a.rows.length a.ins.toNat (q0 % a.rows.length).toNat (q1 % a.ins).toNat e else dB a a.rows.length a.ins.toNat (permL a.rows.length p0 p1)
theorem dE_ok {pl : List Int} {n : Nat} {o : Int} (hl : pl.length = n) (hp : ∀ v ∈ pl, 0 ≤ v ∧ v < n) {e : Int × Int} (h : isNone e = true ∨ (0 ≤ e.1 ∧ e.1 < n ∧ 0 ≤ e.2 ∧ e.2 < o)) : isNone (dE pl e) = true ∨ (0 ≤ (dE pl e).1 ∧ (dE pl e).1 < n ∧ 0 ≤ (dE pl e).2 ∧ (dE pl e).2 < o) := by
 rcases h with h | h
 ·left
  have h' : e.1 = -1 ∧ e.2 = -1 := by simpa [isNone] using h
  unfold dE
  rw [if_neg (by omega)]; exact h
 ·right
  unfold dE
  rw [if_pos h.1, List.getElem?_eq_getElem (by omega)]
  have := hp _ (List.getElem_mem (show e.1.toNat < pl.length by omega))
  exact ⟨this.1, this.2, h.2.2⟩
theorem dRow_ok {pl : List Int} {a : Mach} {n : Nat} (va : Valid a) (hn : n = a.rows.length) (hl : pl.length = n) (hp : ∀ v ∈ pl, 0 ≤ v ∧ v < n) {s : Nat} (hs : s < n) {W : Nat → Nat → Int × Int} (hW : ∀ s i : Nat, s < n → (i : Int) < a.ins → isNone (W s i) = true ∨ (0 ≤ (W s i).1 ∧ (W s i).1 < n ∧ 0 ≤ (W s i).2 ∧ (W s i).2 < a.outs)) :
  ∀ j : Nat, (j : Int) ≤ a.ins → ∀ t i : Nat, t < n → (i : Int) < a.ins → isNone (dRow pl a s j W t i) = true ∨ (0 ≤ (dRow pl a s j W t i).1 ∧ (dRow pl a s j W t i).1 < n ∧ 0 ≤ (dRow pl a s j W t i).2 ∧ (dRow pl a s j W t i).2 < a.outs)
 | 0, _, t, i, ht, hi => hW t i ht hi
 | j + 1, hj, t, i, ht, hi => by
   have ih := dRow_ok va hn hl hp hs hW j (by omega) t i ht hi
   unfold dRow upd2
   split
   ·obtain ⟨r, _, _, f3⟩ := eAt_fit va (s := s) (i := j) (by omega) (by omega)
    rw [← hn] at f3
    exact dE_ok hl hp f3
   ·exact ih
theorem dTab_ok {pl : List Int} {a : Mach} {n N : Nat} (va : Valid a) (hn : n = a.rows.length) (hN : a.ins = (N : Int)) (hl : pl.length = n) (hp : ∀ v ∈ pl, 0 ≤ v ∧ v < n) :
  ∀ s : Nat, s ≤ n → ∀ t i : Nat, t < n → (i : Int) < a.ins → isNone (dTab pl a N s t i) = true ∨ (0 ≤ (dTab pl a N s t i).1 ∧ (dTab pl a N s t i).1 < n ∧ 0 ≤ (dTab pl a N s t i).2 ∧ (dTab pl a N s t i).2 < a.outs)
 | 0, _, t, i, ht, hi => by
   obtain ⟨r, _, _, f3⟩ := eAt_fit va (s := t) (i := i) (by omega) hi
   rw [← hn] at f3
   exact f3
 | s + 1, hs, t, i, ht, hi => dRow_ok va hn hl hp (show s < n by omega) (dTab_ok va hn hN hl hp s (by omega)) N (by omega) t i ht hi
theorem dB_ok {pl : List Int} {a : Mach} {n N : Nat} (va : Valid a) (hn : n = a.rows.length) (hN : a.ins = (N : Int)) (hl : pl.length = n) (hp : ∀ v ∈ pl, 0 ≤ v ∧ v < n) : Valid (dB a n N pl) := by
 have h1 := va.ins
 have h2 := va.rows
 exact valid_tab hN (by omega) va.outs (by omega) fun s i hs hi => dTab_ok va hn hN hl hp n (Nat.le_refl _) s i hs (by omega)
theorem dRes_ok {a : Mach} (va : Valid a) {p0 p1 : Int} (q0 q1 : Int) (e : Int × Int) (h0 : 0 ≤ p0) (h1 : 0 ≤ p1) : Valid (dRes a p0 p1 q0 q1 e) ∧ (dRes a p0 p1 q0 q1 e).ins = a.ins ∧ (dRes a p0 p1 q0 q1 e).rows.length = a.rows.length := by
 have hi := va.ins
 have hr := va.rows
 unfold dRes
 split
 ·rename_i h
  exact ⟨.of h, rfl, by simp [dC]⟩
 ·exact ⟨dB_ok va rfl (by omega) (permL_len _ _ _) (permL_ok (by omega) h0 h1), rfl, by simp [dB]⟩
def eM (b : Mach) (n N : Nat) (W : Nat → Nat → Int × Int) : Mem :=
 (1000000, .cells [.sc (.int .i64 b.ins), .sc (.int .i64 b.outs), .tl 1000001 n false]) :: (1000001, .arr 1 (ocell N n) false) :: (otab 2 edgeC W n N ++ [(0, .cells [.sc (.int .i64 0), .sc (.int .i64 0), .sl true [] .zer]), (1, .cells [.sc (.int .i64 0), .sc (.int .i64 0), .sl true [] .zer])])
set_option maxHeartbeats 4000000 in
theorem dOf1_is {d : LD} (h : d.Ok) (hs : d.sw = true) : PureIs prog 5 [.ag d.cells] (.tu [.ag d.x.mach.cells, .ag (dRes d.x.mach d.p0 d.p1 d.q0 d.q1 d.e).cells]) := by
 have hA := mOf_is h.x
 have vA := LM.valid h.x
 have hrA : d.x.mach.rows.length ≤ 6 := by simp only [LM.mach, List.length_map, List.length_range]; have := LM.bounds h.x; omega
 have hp0 := h.p0
 have hp1 := h.p1
 have hq0 := h.q0
 have hq1 := h.q1
 generalize d.x.mach = a at hA vA hrA
 obtain ⟨x, y, sw, p0, p1, q0, q1, e⟩ := d
 simp only at hs hp0 hp1 hq0 hq1
 subst hs
 have hA : PureIs prog 13 [.ag [.sc (.int .u8 x.st), .sc (.int .u8 x.ins), .sc (.int .u8 x.outs), .sc (.bool x.part), .sl x.nl (x.es.map u16C) x.cap]] (.ag [.sc (.int .i64 a.ins), .sc (.int .i64 a.outs), .sl a.nl (a.rows.map rowC) .unk]) := hA
 have hrw := vA.rows
 have hin := vA.ins
 obtain ⟨N, hN⟩ : ∃ N : Nat, a.ins = (N : Int) := ⟨a.ins.toNat, by omega⟩
 obtain ⟨n, hn⟩ : ∃ n, n = a.rows.length := ⟨_, rfl⟩
 refine PureIs.of1 15 [6, 23, 35, 43, 74, 78, 84, 97, 115, 139] func5 ntmps5 results5 fun _ => ?_
 refine EvC.a ?_ (by simp only [go_sem, LD.cells, LM.cells, List.cons_append, List.nil_append] <;> rfl)
 refine EvC.z 0 ?_
 refine EvC.k1 ?_ (c1 := .ca hA)
 refine EvC.a ?_ (by simp only [go_sem, List.length_map, ← hn] <;> rfl)
 refine EvC.z 6 ?_
 refine EvC.seq ?_
 refine EvC.a ?_
 refine EvC.cs ?_
 refine EvC.a ?_
 refine EvC.seq ?_
 refine EvC.a ?_
 refine EvC.block ?_
 refine EvC.thaw 15 (by simp only [go_sem] <;> rfl) ?_
 have hid : ∀ i : Nat, i < n → ((List.range i).map fun k : Nat => (k : Int)).length = i := fun i _ => by simp
 refine EvC.loopS (σ := Nat) (fun i => ⟨[(1, .ia (LD.cells ⟨x, y, true, p0, p1, q0, q1, e⟩)), (2, .rf 0 0), (3, .rf 1 0), (4, .ia a.cells), (5, .sc (.int .i64 n)), (6, .tl 2 i (i == 0)), (7, .sc (.int .i64 i))], [],
  [(0, .cells [.sc (.int .i64 0), .sc (.int .i64 0), .sl true [] .zer]), (1, .cells [.sc (.int .i64 0), .sc (.int .i64 0), .sl true [] .zer]), (2, .arr 1 (((List.range i).map fun k : Nat => (k : Int)).map intC) false)], 3⟩) (fun i => n - i) (fun i => i ≤ n) [1, 2, 3, 4, 5, 6, 7] 3 ?_ ?_
 ·refine ⟨[(1, 0), (2, 1), (15, 2)], 0, rfl, (by simp only [go_sem, LD.cells, LM.cells, Mach.cells, List.cons_append, List.nil_append, List.range_zero, List.map_nil] <;> rfl), Nat.zero_le _⟩
 rintro i hi
 have hl : (((List.range i).map fun k : Nat => (k : Int)).map intC).length = i := by simp
 refine EvC.seq ?_
 refine EvC.a ?_
 refine EvC.cd (fun hc => ?_) (fun hc => ?_)
 rotate_left
 ·refine EvC.exit ?_
  have hi2 : n = i := by have : ¬ i < n := by simpa using hc
                         omega
  subst hi2
  clear hc hi
  have hn0 : (n == 0) = false := by simp; omega
  rw [hn0]
  refine EvC.gc [1, 2, 3, 4, 5, 6] [(0, 0), (1, 1), (2, 2)] 3 rfl ?_
  have hpl := permL_len n p0 p1
  have hpr := permL_ok (n := n) (by omega) hp0.1 hp1.1
  refine EvC.seq ?_
  refine EvC.mono (Q := fun e' st' => e' = .normal ∧ st'.gc [1, 2, 3, 4, 5, 6] [(0, 0), (1, 1), (2, 2)] 3 = ⟨[(1, .ia (LD.cells ⟨x, y, true, p0, p1, q0, q1, e⟩)), (2, .rf 0 0), (3, .rf 1 0), (4, .ia a.cells), (5, .sc (.int .i64 n)), (6, .tl 2 n false)], [],
   [(0, .cells [.sc (.int .i64 0), .sc (.int .i64 0), .sl true [] .zer]), (1, .cells [.sc (.int .i64 0), .sc (.int .i64 0), .sl true [] .zer]), (2, .arr 1 ((permL n p0 p1).map intC) false)], 3⟩) ?_ ?_
  ·refine EvC.a ?_
   refine EvC.cd (fun hc => ?_) (fun hc => ?_)
   ·have h1 : 1 < n := by have : (1 : Int) < n := by simpa using hc
                          omega
    have g1 := posL_ok h1 hp0.1
    have g2 := posL_ok h1 hp1.1
    have e1 : 1 + p0 % ((n : Int) - 1) = posL n p0 := rfl
    have e2 : 1 + p1 % ((n : Int) - 1) = posL n p1 := rfl
    have m1 : inI64 (p0 % ((n : Int) - 1)) = true := inI64_of (by unfold posL at g1; omega) (by unfold posL at g1; omega)
    have m2 : inI64 (p1 % ((n : Int) - 1)) = true := inI64_of (by unfold posL at g2; omega) (by unfold posL at g2; omega)
    have m3 : inI64 (1 + p0 % ((n : Int) - 1)) = true := inI64_of (by unfold posL at g1; omega) (by unfold posL at g1; omega)
    have m4 : inI64 (1 + p1 % ((n : Int) - 1)) = true := inI64_of (by unfold posL at g2; omega) (by unfold posL at g2; omega)
    have m5 : inI64 ((n : Int) - 1) = true := inI64_of (by omega) (by omega)
    have m6 : inI64 p0 = true := inI64_of (by omega) (by omega)
    have m7 : inI64 p1 = true := inI64_of (by omega) (by omega)
    have d1 : decide (0 ≤ p0) = true := decide_eq_true hp0.1
    have d2 : decide (0 ≤ p1) = true := decide_eq_true hp1.1
    have d3 : decide (0 < (n : Int) - 1) = true := decide_eq_true (by omega)
    refine EvC.d mixed ?_ (h := by simp only [go_sem, LD.cells, LM.cells, List.cons_append, List.nil_append] <;> rfl) (hok := by simp [m1, m2, m3, m4, m5, m6, m7]; omega)
    have hpm : permL n p0 p1 = ((idL n).set (posL n p0).toNat (posL n p1)).set (posL n p1).toNat (posL n p0) := by rw [permL, if_pos h1]
    rw [e1, e2]
    generalize posL n p0 = u at g1 hpm
    generalize posL n p1 = v at g2 hpm
    have hg : ∀ k : Int, 0 ≤ k → k < n → (((List.range n).map fun k : Nat => (k : Int)).map intC)[k.toNat]? = some (intC k) := fun k k0 k1 => by
     rw [List.getElem?_map]
     have := idL_get (n := n) (i := k.toNat) (by omega)
     unfold idL at this
     rw [this]
     simp [Int.toNat_of_nonneg k0]
    have hgu := hg u (by omega) (by omega)
    have hgv := hg v (by omega) (by omega)
    have hlr : (((List.range n).map fun k : Nat => (k : Int)).map intC).length = n := by simp
    have hgs : ((((List.range n).map fun k : Nat => (k : Int)).map intC).set u.toNat [.sc (.int .i64 v)])[v.toNat]? = some [.sc (.int .i64 v)] := by
     rw [List.getElem?_set]
     split
     ·rw [hlr, if_pos (by omega)]
     ·exact hgv
    have b1 : decide (0 ≤ u) = true := decide_eq_true (by omega)
    have b2 : decide (0 ≤ v) = true := decide_eq_true (by omega)
    apply EvC.drwA mixed
    ·apply Tr.done
     ·simp only [go_sem, hgu, hgv, hgs, hlr, List.length_set, intC] <;> rfl
     ·simp [hlr]; omega
    ·kernel_rfl
    refine ⟨rfl, ?_⟩
    have hpm2 : (permL n p0 p1).map intC = ((((List.range n).map fun k : Nat => (k : Int)).map intC).set u.toNat [.sc (.int .i64 v)]).set v.toNat [.sc (.int .i64 u)] := by rw [hpm, List.map_set, List.map_set]; rfl
    have hno : (((((List.range n).map fun k : Nat => (k : Int)).map intC).set u.toNat [.sc (.int .i64 v)]).set v.toNat [.sc (.int .i64 u)]).all AV.norefs = true := by rw [← hpm2]; simp [List.all_eq_true, intC, AV.norefs, AV.noref]
    rw [hpm2]
    simp only [go_sem, hno, LD.cells, LM.cells, Mach.cells, List.cons_append, List.nil_append] <;> rfl
   ·have h1 : ¬ 1 < n := by have : ¬ (1 : Int) < n := by simpa using hc
                            omega
    refine EvC.skip ⟨rfl, ?_⟩
    rw [permL, if_neg h1]
    simp only [go_sem, LD.cells, LM.cells, Mach.cells, List.cons_append, List.nil_append] <;> rfl
  rintro e' st' ⟨rfl, hst⟩
  refine EvC.gc [1, 2, 3, 4, 5, 6] [(0, 0), (1, 1), (2, 2)] 3 rfl ?_
  rw [hst]
  clear hst
  obtain ⟨pl, hple⟩ : ∃ pl, pl = permL n p0 p1 := ⟨_, rfl⟩
  rw [← hple] at hpl hpr ⊢
  have hn1 : n ≤ 1000000 := by omega
  apply EvC.seq
  apply EvC.rs
  ·simp only [go_sem, Mach.cells] <;> rfl
  ·simp
  refine XR.gcTo ⟨[(1, .ia (LD.cells ⟨x, y, true, p0, p1, q0, q1, e⟩)), (2, .rf 0 0), (3, .rf 1 0), (4, .ia a.cells), (5, .sc (.int .i64 n)), (6, .tl 2 n false), (74, .ag a.cells)], [],
   [(0, .cells [.sc (.int .i64 0), .sc (.int .i64 0), .sl true [] .zer]), (1, .cells [.sc (.int .i64 0), .sc (.int .i64 0), .sl true [] .zer]), (2, .arr 1 (pl.map intC) false)], 3⟩ [1, 2, 3, 4, 5, 6, 74] [(0, 0), (1, 1), (2, 2)] (by rfl) (by simp only [go_sem, LD.cells, LM.cells, Mach.cells, List.cons_append, List.nil_append] <;> rfl) ?_
  refine XR.callF [] [(0, .cells [.sc (.int .i64 0), .sc (.int .i64 0), .sl true [] .zer]), (1, .cells [.sc (.int .i64 0), .sc (.int .i64 0), .sl true [] .zer]), (2, .arr 1 (pl.map intC) false)] rfl rfl (by simp only [go_sem] <;> rfl) (by simp only [go_sem] <;> rfl) (by simp only [go_sem, bodyArgsS] <;> rfl) (by simp only [go_sem] <;> rfl) rfl ?_
  refine copyO_is vA hN ?_
  rw [← hn]
  refine ⟨by simp only [Nat.reduceLeDiff], cpM_framed (X := _) hn1 (eAt a) rfl, ?_⟩
  apply XR.done
  ·simp only [go_sem] <;> rfl
  ·simp [ocell_len]
  refine EvC.seq ?_
  refine EvC.a ?_
  refine EvC.block ?_
  have hlo : ∀ {A B : List (Nat × Nat)}, (A.all fun p => notO p.1) = true → ∀ k, k < n → rlook (osegK A n B) (2000000 + k) = some (2000000 + k) := fun hA k hk => rlook_osegK_lo hk hn1 hA
  have hLX := fun W X k hk => otab_lookX 2 edgeC W (n := n) (m := N) hn1 X k hk
  have hRX := fun W K X => otab_renX 2 hEn W n N K X
  refine EvC.loopS (σ := Nat) (fun s => ⟨[(1, .ia (LD.cells ⟨x, y, true, p0, p1, q0, q1, e⟩)), (2, .rf 0 0), (3, .rf 1 0), (4, .ia a.cells), (5, .sc (.int .i64 n)), (6, .tl 2 n false), (10, .rf 1000000 0), (11, .sc (.int .i64 s))], [], dM a n N (dTab pl a N s) pl, 3000000⟩) (fun s => n - s) (fun s => s ≤ n) [1, 2, 3, 4, 5, 6, 10, 11] 3000000 ?_ ?_
  ·refine ⟨osegK [(3000007, 1000000), (1000002, 1000001)] n [(0, 0), (1, 1), (2, 2)], 0, osegK_okB (A := [(3000007, 1000000), (1000002, 1000001)]) (B := [(0, 0), (1, 1), (2, 2)]) rfl rfl rfl rfl rfl rfl rfl hn1 (by omega), ?_, Nat.zero_le _⟩
   have hlo := hlo (A := [(3000007, 1000000), (1000002, 1000001)]) (B := [(0, 0), (1, 1), (2, 2)]) rfl
   unfold dM
   simp only [go_sem, dTab, LD.cells, LM.cells, Mach.cells, hLX, hRX, renMem_osegK, renMem, rlook_osegK_hi hn1, List.cons_append, List.nil_append, List.append_nil, renMem_oK_cons hn1, ocell_ren hlo, ite_self, Int.natCast_zero] <;> rfl
  rintro s hs
  have hoc := ocell_len N n
  refine EvC.seq ?_
  refine EvC.a ?_
  refine EvC.cd (fun hc => ?_) (fun hc => ?_)
  rotate_left
  ·refine EvC.exit ?_
   have hsn : n = s := by have : ¬ s < n := by simpa using hc
                          omega
   subst hsn
   clear hc hs
   obtain ⟨W, hW⟩ : ∃ W, W = dTab pl a N n := ⟨_, rfl⟩
   rw [← hW]
   obtain ⟨rs, hrs⟩ : ∃ rs : List Row, rs = (List.range n).map fun s => (false, (List.range N).map (W s)) := ⟨_, rfl⟩
   have hGX := fun X s (h : s < n) => otab_getX 2 edgeC W (m := N) X h
   have hfzC : ∀ i, i < n → ∃ esz es fz, mlook (dM a n N W pl) (2000000 + i) = some (.arr esz es fz) ∧ es.all AV.norefs = true := fun i hi => by
    have hi6 : i < 1000000 := by omega
    refine ⟨2, gcells edgeC (W i) N, false, ?_, gcells_norefs hEn _ _⟩
    simp only [dM, mlook, o_ne hi6 1000000 rfl, o_ne hi6 1000001 rfl, if_false, hGX _ _ hi]
   refine EvC.ofzAll n hfzC ?_
   have hofz : ofzAll n (dM a n N W pl) = (1000000, .cells [.sc (.int .i64 a.ins), .sc (.int .i64 a.outs), .tl 1000001 n false]) :: (1000001, .arr 1 (ocell N n) false) :: (otabF 2 edgeC W n N ++ [(0, .cells [.sc (.int .i64 0), .sc (.int .i64 0), .sl true [] .zer]), (1, .cells [.sc (.int .i64 0), .sc (.int .i64 0), .sl true [] .zer]), (2, .arr 1 (pl.map intC) false)]) := by
    unfold dM
    rw [ofzAll_cons hn1 1000000 rfl, ofzAll_cons hn1 1000001 rfl, otab_fzX]
   show EvC _ _ _ _ _ ⟨_, _, ofzAll n (dM a n N W pl), _⟩ _
   rw [hofz]
   have hsnap : (ocell N n).map (fun c => c.map (AV.deep (snap ((1000000, .cells [.sc (.int .i64 a.ins), .sc (.int .i64 a.outs), .tl 1000001 n false]) :: (1000001, .arr 1 (ocell N n) false) :: (otabF 2 edgeC W n N ++ [(0, .cells [.sc (.int .i64 0), .sc (.int .i64 0), .sl true [] .zer]), (1, .cells [.sc (.int .i64 0), .sc (.int .i64 0), .sl true [] .zer]), (2, .arr 1 (pl.map intC) false)]))))) = rs.map rowC := by
    rw [ocell_snap (e := 2) (row := fun s => gcells edgeC (W s) N)]
    ·rw [hrs, List.map_map]
     refine List.map_congr_left fun s _ => ?_
     rw [gcells_edge]; rfl
    ·intro i hi
     have hi6 : i < 1000000 := by omega
     simp only [mlook, o_ne hi6 1000000 rfl, o_ne hi6 1000001 rfl, if_false, mlook_append, otabF_look 2 edgeC W hi]
    ·intro i _; exact gcells_len _ _ _
   have hrl : rs.length = n := by rw [hrs]; simp
   have hrn : (rs.map rowC).all AV.norefs = true := by simp [List.all_eq_true, rowC, AV.norefs, AV.noref]
   refine EvC.snapA 1000001 (by simp only [go_sem, hsnap] <;> rfl) ?_
   refine EvC.gc [1, 2, 3, 4, 5, 10] [(0, 0), (1, 1), (1000000, 2), (1000001, 3)] 4 rfl ?_
   have hrl2 : (rs.map rowC).length = n := by rw [List.length_map, hrl]
   have hlX : ∀ k, k < 1000000 → mlook (otabF 2 edgeC W n N) k = none := fun k hk => by
    unfold otabF
    rw [mlook_msegA, if_neg (by omega)]
   have g0 := hlX 0 (by decide)
   have g1 := hlX 1 (by decide)
   refine EvC.frzD 3 (by simp only [go_sem, g0, g1, mlook_append, renMem, hrl2, hrn] <;> rfl) ?_
   refine EvC.z 2 ?_
   have vB := dB_ok vA hn hN hpl hpr
   obtain ⟨b, hb⟩ : ∃ b, b = dB a n N pl := ⟨_, rfl⟩
   rw [← hb] at vB
   have hbc : [.sc (.int .i64 a.ins), .sc (.int .i64 a.outs), .sl false (rs.map rowC) .unk] = b.cells := by rw [hb, Mach.cells, dB, hrs, hW]
   have hbN : b.ins = (N : Int) := by rw [hb]; exact hN
   have hbr : b.rows.length = n := by rw [hb]; simp [dB]
   have hres : dRes a p0 p1 q0 q1 e = if checkM (dC b n N (q0 % (n : Int)).toNat (q1 % a.ins).toNat e) = 0 then dC b n N (q0 % (n : Int)).toNat (q1 % a.ins).toNat e else b := by
    have hNt : a.ins.toNat = N := by omega
    rw [hb, hple, dRes, ← hn, hNt]
   rw [hres, hbc]
   clear hbc hres hb
   refine EvC.gc [1, 2, 3, 4, 5, 10] [(0, 0), (1, 1)] 3 rfl ?_
   apply EvC.seq
   apply EvC.rs
   ·simp only [go_sem, mlook_append, renMem, Mach.cells] <;> rfl
   ·simp
   refine XR.gcTo ⟨[(1, .ia (LD.cells ⟨x, y, true, p0, p1, q0, q1, e⟩)), (2, .rf 0 0), (3, .rf 1 0), (4, .ia a.cells), (5, .sc (.int .i64 n)), (10, .ia b.cells), (115, .ag b.cells)], [],
    [(0, .cells [.sc (.int .i64 0), .sc (.int .i64 0), .sl true [] .zer]), (1, .cells [.sc (.int .i64 0), .sc (.int .i64 0), .sl true [] .zer])], 3⟩ [1, 2, 3, 4, 5, 10, 115] [(0, 0), (1, 1)] (by rfl) (by simp only [go_sem, LD.cells, LM.cells, Mach.cells, List.cons_append, List.nil_append] <;> rfl) ?_
   refine XR.callF [] [(0, .cells [.sc (.int .i64 0), .sc (.int .i64 0), .sl true [] .zer]), (1, .cells [.sc (.int .i64 0), .sc (.int .i64 0), .sl true [] .zer])] rfl rfl (by simp only [go_sem] <;> rfl) (by simp only [go_sem] <;> rfl) (by simp only [go_sem, bodyArgsS] <;> rfl) (by simp only [go_sem] <;> rfl) rfl ?_
   refine copyO_is vB hbN ?_
   rw [hbr]
   refine ⟨by simp only [Nat.reduceLeDiff], cpM_framed (X := _) hn1 (eAt b) rfl, ?_⟩
   apply XR.done
   ·simp only [go_sem] <;> rfl
   ·simp [ocell_len]
   have hlo := hlo (A := [(3000007, 1000000), (1000002, 1000001)]) (B := [(0, 0), (1, 1)]) rfl
   refine EvC.gcE (st2 := ⟨[(1, .ia (LD.cells ⟨x, y, true, p0, p1, q0, q1, e⟩)), (2, .rf 0 0), (3, .rf 1 0), (4, .ia a.cells), (5, .sc (.int .i64 n)), (10, .ia b.cells), (14, .rf 1000000 0)], [], eM b n N (eAt b), 3000000⟩) [1, 2, 3, 4, 5, 10, 14] (osegK [(3000007, 1000000), (1000002, 1000001)] n [(0, 0), (1, 1)]) 3000000 (osegK_okB (A := [(3000007, 1000000), (1000002, 1000001)]) (B := [(0, 0), (1, 1)]) rfl rfl rfl rfl rfl rfl rfl hn1 (by omega)) ?_ ?_
   ·have hLX := fun W X k hk => otab_lookX 2 edgeC W (n := n) (m := N) hn1 X k hk
    have hRX := fun W K X => otab_renX 2 hEn W n N K X
    unfold eM
    simp only [go_sem, LD.cells, LM.cells, Mach.cells, hLX, hRX, renMem_osegK, renMem, rlook_osegK_hi hn1, List.cons_append, List.nil_append, List.append_nil, renMem_oK_cons hn1, ocell_ren hlo, ite_self, Int.natCast_zero] <;> rfl
   have q0m := Int.emod_nonneg q0 (b := (n : Int)) (by omega)
   have q0l := Int.emod_lt_of_pos q0 (b := (n : Int)) (by omega)
   have q1m := Int.emod_nonneg q1 (b := a.ins) (by omega)
   have q1l := Int.emod_lt_of_pos q1 (b := a.ins) (by omega)
   have hN' := hN
   rw [hN] at q1m q1l ⊢
   obtain ⟨k, hk⟩ : ∃ k : Nat, q0 % (n : Int) = (k : Int) := ⟨_, (Int.toNat_of_nonneg q0m).symm⟩
   obtain ⟨i, hi⟩ : ∃ i : Nat, q1 % (N : Int) = (i : Int) := ⟨_, (Int.toNat_of_nonneg q1m).symm⟩
   rw [hk] at q0m q0l ⊢
   rw [hi] at q1m q1l ⊢
   rw [Int.toNat_natCast, Int.toNat_natCast]
   have m3 : inI64 (k : Int) = true := inI64_of (by omega) (by omega)
   have m4 : inI64 (i : Int) = true := inI64_of (by omega) (by omega)
   have hkn : k < n := by omega
   have hin2 : i < N := by omega
   have m1 : inI64 (q0 % (n : Int)) = true := inI64_of (by omega) (by omega)
   have m2 : inI64 (q1 % (N : Int)) = true := inI64_of (by omega) (by omega)
   have m6 : inI64 q0 = true := inI64_of (by omega) (by omega)
   have m7 : inI64 q1 = true := inI64_of (by omega) (by omega)
   have d1 : decide (0 ≤ q0) = true := decide_eq_true hq0.1
   have d2 : decide (0 ≤ q1) = true := decide_eq_true hq1.1
   have d3 : decide (0 < (n : Int)) = true := decide_eq_true (by omega)
   have d4 : decide (0 < (N : Int)) = true := decide_eq_true (by omega)
   have hGX := fun X => otab_getX 2 edgeC (eAt b) (m := N) X hkn
   have hMX := fun X o k hk => otab_msetX 2 edgeC (eAt b) (n := n) (m := N) hn1 X o k hk
   have hL0 := fun X => otab_lookX 2 edgeC (eAt b) (n := n) (m := N) hn1 X 0 rfl
   have hL1 := fun X => otab_lookX 2 edgeC (eAt b) (n := n) (m := N) hn1 X 1 rfl
   have hk6 : k < 1000000 := by omega
   have n2 := o_ne hk6 1000000 rfl
   have n3 := o_ne hk6 1000001 rfl
   have hgc1 := gcells_len edgeC (eAt b k) N
   have hgc2 := gcells_get edgeC (eAt b k) (m := N) hin2
   have hSX := fun X => otab_setX 2 edgeC (eAt b) X e hkn hin2
   simp only [edgeC] at hSX
   have hoc := ocell_len N n
   unfold eM
   apply EvC.seq
   apply EvC.drwA mixed
   ·apply Tr.done
    ·simp only [go_sem, LD.cells, LM.cells, Mach.cells, hN', List.cons_append, List.nil_append, d1, d2, d3, d4, hk, hi, hL0, hL1, n2, n3, ocell_get hkn, hGX, hgc1, hgc2, hSX, hMX, hoc, Int.toNat_natCast, edgeC] <;> rfl
    ·simp [hoc, hkn, hin2, m1, m2, m3, m4, m6, m7]
   ·exact confAllA_slots (by simp [rdOk, slotsOf, opSlots, memless, Op.operands, Call.operands]) (by kernel_rfl)
   obtain ⟨V, hV⟩ : ∃ V, V = upd2 (eAt b) k i e := ⟨_, rfl⟩
   obtain ⟨c, hc⟩ : ∃ c, c = dC b n N k i e := ⟨_, rfl⟩
   rw [← hV, ← hc]
   obtain ⟨rc, hrc⟩ : ∃ rc : List Row, rc = (List.range n).map fun s => (false, (List.range N).map (V s)) := ⟨_, rfl⟩
   have hcc : [.sc (.int .i64 b.ins), .sc (.int .i64 b.outs), .sl false (rc.map rowC) .unk] = c.cells := by rw [hc, Mach.cells, dC, hrc, hV]
   have hcr : ∀ r ∈ c.rows, r.2.length < 1000000 := fun r hr => by
    rw [hc] at hr
    obtain ⟨s, _, rfl⟩ := List.mem_map.1 hr
    simp only [List.length_map, List.length_range]; omega
   clear hc hV
   have hGX2 := fun X s (h : s < n) => otab_getX 2 edgeC V (m := N) X h
   have hfzC2 : ∀ i, i < n → ∃ esz es fz, mlook (eM b n N V) (2000000 + i) = some (.arr esz es fz) ∧ es.all AV.norefs = true := fun i hi => by
    have hi6 : i < 1000000 := by omega
    refine ⟨2, gcells edgeC (V i) N, false, ?_, gcells_norefs hEn _ _⟩
    simp only [eM, mlook, o_ne hi6 1000000 rfl, o_ne hi6 1000001 rfl, if_false, hGX2 _ _ hi]
   refine EvC.gcE (st2 := ⟨[(2, .rf 0 0), (3, .rf 1 0), (4, .ia a.cells), (10, .ia b.cells), (14, .rf 1000000 0)], [], eM b n N V, 3000000⟩) [2, 3, 4, 10, 14] (osegK [(1000000, 1000000), (1000001, 1000001)] n [(0, 0), (1, 1)]) 3000000 (osegK_okB (A := [(1000000, 1000000), (1000001, 1000001)]) (B := [(0, 0), (1, 1)]) rfl rfl rfl rfl rfl rfl rfl hn1 (by omega)) ?_ ?_
   ·have hLX := fun W X k hk => otab_lookX 2 edgeC W (n := n) (m := N) hn1 X k hk
    have hRX := fun W K X => otab_renX 2 hEn W n N K X
    have hlo := fun k hk => rlook_osegK_lo (A := [(1000000, 1000000), (1000001, 1000001)]) (B := [(0, 0), (1, 1)]) (s := k) hk hn1 rfl
    unfold eM
    simp only [go_sem, hN', LD.cells, LM.cells, Mach.cells, hLX, hRX, renMem_osegK, renMem, rlook_osegK_hi hn1, List.cons_append, List.nil_append, List.append_nil, renMem_oK_cons hn1, ocell_ren hlo, ite_self, Int.natCast_zero] <;> rfl
   refine EvC.ofzAll n hfzC2 ?_
   have hofz2 : ofzAll n (eM b n N V) = (1000000, .cells [.sc (.int .i64 b.ins), .sc (.int .i64 b.outs), .tl 1000001 n false]) :: (1000001, .arr 1 (ocell N n) false) :: (otabF 2 edgeC V n N ++ [(0, .cells [.sc (.int .i64 0), .sc (.int .i64 0), .sl true [] .zer]), (1, .cells [.sc (.int .i64 0), .sc (.int .i64 0), .sl true [] .zer])]) := by
    unfold eM
    rw [ofzAll_cons hn1 1000000 rfl, ofzAll_cons hn1 1000001 rfl, otab_fzX]
   show EvC _ _ _ _ _ ⟨_, _, ofzAll n (eM b n N V), _⟩ _
   rw [hofz2]
   have hsnap2 : (ocell N n).map (fun c => c.map (AV.deep (snap ((1000000, .cells [.sc (.int .i64 b.ins), .sc (.int .i64 b.outs), .tl 1000001 n false]) :: (1000001, .arr 1 (ocell N n) false) :: (otabF 2 edgeC V n N ++ [(0, .cells [.sc (.int .i64 0), .sc (.int .i64 0), .sl true [] .zer]), (1, .cells [.sc (.int .i64 0), .sc (.int .i64 0), .sl true [] .zer])]))))) = rc.map rowC := by
    rw [ocell_snap (e := 2) (row := fun s => gcells edgeC (V s) N)]
    ·rw [hrc, List.map_map]
     refine List.map_congr_left fun s _ => ?_
     rw [gcells_edge]; rfl
    ·intro i hi
     have hi6 : i < 1000000 := by omega
     simp only [mlook, o_ne hi6 1000000 rfl, o_ne hi6 1000001 rfl, if_false, mlook_append, otabF_look 2 edgeC V hi]
    ·intro i _; exact gcells_len _ _ _
   have hcl : rc.length = n := by rw [hrc]; simp
   have hcn : (rc.map rowC).all AV.norefs = true := by simp [List.all_eq_true, rowC, AV.norefs, AV.noref]
   refine EvC.snapA 1000001 (by simp only [go_sem, hsnap2] <;> rfl) ?_
   refine EvC.gc [2, 3, 4, 10, 14] [(0, 0), (1, 1), (1000000, 2), (1000001, 3)] 4 rfl ?_
   have hcl2 : (rc.map rowC).length = n := by rw [List.length_map, hcl]
   have hlX2 : ∀ k, k < 1000000 → mlook (otabF 2 edgeC V n N) k = none := fun k hk => by
    unfold otabF
    rw [mlook_msegA, if_neg (by omega)]
   have g02 := hlX2 0 (by decide)
   have g12 := hlX2 1 (by decide)
   refine EvC.frzD 3 (by simp only [go_sem, g02, g12, mlook_append, renMem, hcl2, hcn] <;> rfl) ?_
   refine EvC.z 2 ?_
   rw [hcc]
   have hck := refcheck28_is c hcr
   refine EvC.gc [2, 3, 4, 10, 14] [(0, 0), (1, 1)] 2 rfl ?_
   have hMc : c.cells = [.sc (.int .i64 c.ins), .sc (.int .i64 c.outs), .sl c.nl (c.rows.map rowC) .unk] := rfl
   have hMb : b.cells = [.sc (.int .i64 b.ins), .sc (.int .i64 b.outs), .sl b.nl (b.rows.map rowC) .unk] := rfl
   have hMa : a.cells = [.sc (.int .i64 a.ins), .sc (.int .i64 a.outs), .sl a.nl (a.rows.map rowC) .unk] := rfl
   rw [hMc] at hck
   refine EvC.seq ?_
   refine EvC.k1 ?_ (h1 := by simp only [go_sem, Mach.cells] <;> rfl) (c1 := .ca hck)
   refine EvC.cd (fun hc => ?_) (fun hc => ?_)
   ·have hc0 : checkM c = 0 := by simpa using hc
    apply EvC.seq
    apply EvC.drwA mixed
    ·apply Tr.done
     ·simp only [go_sem, Mach.cells] <;> rfl
     ·simp
    ·kernel_rfl
    rw [if_pos hc0]
    refine EvC.rz ?_
    simp only [go_sem]
    rfl
   have hc0 : ¬ checkM c = 0 := by simpa using hc
   rw [if_neg hc0]
   refine EvC.skip ?_
   apply EvC.seq
   apply EvC.drwA mixed
   ·apply Tr.done
    ·simp only [go_sem, Mach.cells] <;> rfl
    ·simp
   ·kernel_rfl
   refine EvC.rz ?_
   simp only [go_sem]
   rfl
  have hs2 : s < n := by simpa using hc
  clear hc
  refine EvC.skip ?_
  refine EvC.seq ?_
  refine EvC.block ?_
  refine EvC.a ?_
  refine EvC.block ?_
  refine EvC.loopS (σ := Nat) (fun i => ⟨[(1, .ia (LD.cells ⟨x, y, true, p0, p1, q0, q1, e⟩)), (2, .rf 0 0), (3, .rf 1 0), (4, .ia a.cells), (5, .sc (.int .i64 n)), (6, .tl 2 n false), (10, .rf 1000000 0), (11, .sc (.int .i64 s)), (12, .sc (.int .i64 i))], [], dM a n N (dRow pl a s i (dTab pl a N s)) pl, 3000000⟩) (fun i => N - i) (fun i => i ≤ N) [1, 2, 3, 4, 5, 6, 10, 11, 12] 3000000 ?_ ?_
  ·refine ⟨osegK [(1000000, 1000000), (1000001, 1000001)] n [(0, 0), (1, 1), (2, 2)], 0, osegK_okB (A := [(1000000, 1000000), (1000001, 1000001)]) (B := [(0, 0), (1, 1), (2, 2)]) rfl rfl rfl rfl rfl rfl rfl hn1 (by omega), ?_, Nat.zero_le _⟩
   have hlo := hlo (A := [(1000000, 1000000), (1000001, 1000001)]) (B := [(0, 0), (1, 1), (2, 2)]) rfl
   unfold dM
   simp only [go_sem, dRow, LD.cells, LM.cells, Mach.cells, hLX, hRX, renMem_osegK, renMem, rlook_osegK_hi hn1, List.cons_append, List.nil_append, List.append_nil, renMem_oK_cons hn1, ocell_ren hlo, ite_self, Int.natCast_zero] <;> rfl
  rintro i hi
  refine EvC.seq ?_
  refine EvC.a ?_ (by simp only [go_sem, Mach.cells, hN] <;> rfl)
  refine EvC.cd (fun hc => ?_) (fun hc => ?_)
  rotate_left
  ·refine EvC.exit ?_
   have hin : N = i := by have : ¬ i < N := by simpa using hc
                          omega
   subst hin
   clear hc hi
   refine EvC.bi ?_
   refine ⟨osegK [(1000000, 1000000), (1000001, 1000001)] n [(0, 0), (1, 1), (2, 2)], s + 1, osegK_okB (A := [(1000000, 1000000), (1000001, 1000001)]) (B := [(0, 0), (1, 1), (2, 2)]) rfl rfl rfl rfl rfl rfl rfl hn1 (by omega), ?_, by omega, by omega⟩
   have hlo := hlo (A := [(1000000, 1000000), (1000001, 1000001)]) (B := [(0, 0), (1, 1), (2, 2)]) rfl
   have hdt : dTab pl a N (s + 1) = dRow pl a s N (dTab pl a N s) := rfl
   rw [hdt]
   unfold dM
   simp only [go_sem, hN, Int.natCast_add, Int.natCast_one, LD.cells, LM.cells, Mach.cells, hLX, hRX, renMem_osegK, renMem, rlook_osegK_hi hn1, List.cons_append, List.nil_append, List.append_nil, renMem_oK_cons hn1, ocell_ren hlo, ite_self] <;> rfl
  have hi2 : i < N := by simpa using hc
  clear hc
  obtain ⟨r, f1, f2, f3⟩ := eAt_fit vA (s := s) (i := i) (by omega) (by omega)
  refine EvC.skip ?_
  refine EvC.seq ?_
  refine EvC.block ?_
  unfold dM
  refine EvC.a ?_ (by simp only [go_sem, Mach.cells, f1, f2, rowC, edgeC] <;> rfl)
  obtain ⟨W, hW⟩ : ∃ W, W = dRow pl a s i (dTab pl a N s) := ⟨_, rfl⟩
  rw [← hW]
  obtain ⟨t, ht, hT0, hT⟩ : ∃ t : Nat, pl[s]? = some (t : Int) ∧ plN pl s = t ∧ t < n := by
   have h1 : pl[s]? = some (pl[s]'(by omega)) := List.getElem?_eq_getElem (by omega)
   have h2 := hpr _ (List.getElem_mem (show s < pl.length by omega))
   exact ⟨(pl[s]'(by omega)).toNat, by rw [h1, Int.toNat_of_nonneg h2.1], by rw [plN, h1]; rfl, by omega⟩
  have hpT : (pl.map intC)[s]? = some (intC (t : Int)) := by rw [List.getElem?_map, ht]; rfl
  have hlp : (pl.map intC).length = n := by simp [hpl]
  have hGX := fun X => otab_getX 2 edgeC W (m := N) X hT
  have hMX := fun X o k hk => otab_msetX 2 edgeC W (n := n) (m := N) hn1 X o k hk
  have hL2 := fun X => otab_lookX 2 edgeC W (n := n) (m := N) hn1 X 2 rfl
  have ht6 : t < 1000000 := by omega
  have n1 := o_ne ht6 3000012 rfl
  have n2 := o_ne ht6 1000000 rfl
  have n3 := o_ne ht6 1000001 rfl
  have hgc1 := gcells_len edgeC (W t) N
  have hgc2 := gcells_get edgeC (W t) (m := N) hi2
  generalize hee : eAt a s i = ed at f2 f3
  obtain ⟨q, o⟩ := ed
  refine EvC.seq ?_
  refine EvC.a ?_
  refine EvC.cd (fun hc => ?_) (fun hc => ?_)
  ·have hq : 0 ≤ q := by simpa using hc
   have hqn : q < n := by
    rcases f3 with f3 | f3
    ·simp [isNone] at f3; omega
    ·rw [hn]; exact f3.2.1
   obtain ⟨v, hv, hv0⟩ : ∃ v : Int, pl[q.toNat]? = some v ∧ dE pl (q, o) = (v, o) := by
    have h1 : pl[q.toNat]? = some (pl[q.toNat]'(by omega)) := List.getElem?_eq_getElem (by omega)
    exact ⟨_, h1, by simp only [dE, if_pos hq, h1]; rfl⟩
   have hpV : (pl.map intC)[q.toNat]? = some (intC v) := by rw [List.getElem?_map, hv]; rfl
   have hSX := fun X => otab_setX 2 edgeC W X (v, o) hT hi2
   refine EvC.b ?_ (by simp only [go_sem, hpV, hlp, hL2, intC] <;> rfl) (by simp [hlp, hq]; omega)
   apply EvC.drwA mixed
   ·apply Tr.done
    ·simp only [go_sem, hpT, intC, hL2, n1, n2, n3, hlp, ocell_get hT, hGX, hgc1, hgc2, hSX, hMX, hoc, Int.toNat_natCast, edgeC] <;> rfl
    ·simp [hlp, hoc, hT, hi2]; omega
   ·exact confAllA_slots (by simp [rdOk, slotsOf, opSlots, memless, Op.operands, Call.operands]) (by kernel_rfl)
   refine EvC.bi ?_
   refine ⟨osegK [(1000000, 1000000), (1000001, 1000001)] n [(0, 0), (1, 1), (2, 2)], i + 1, osegK_okB (A := [(1000000, 1000000), (1000001, 1000001)]) (B := [(0, 0), (1, 1), (2, 2)]) rfl rfl rfl rfl rfl rfl rfl hn1 (by omega), ?_, by omega, by omega⟩
   have hlo := hlo (A := [(1000000, 1000000), (1000001, 1000001)]) (B := [(0, 0), (1, 1), (2, 2)]) rfl
   have hdr : dRow pl a s (i + 1) (dTab pl a N s) = upd2 W t i (v, o) := by rw [dRow, ← hW, hT0, hee, hv0]
   rw [hdr]
   have hSX2 := fun X => otab_setX 2 edgeC W X (v, o) hT hi2
   simp only [edgeC] at hSX2
   simp only [go_sem, hN, hSX2, Int.natCast_add, Int.natCast_one, LD.cells, LM.cells, Mach.cells, hLX, hRX, renMem_osegK, renMem, rlook_osegK_hi hn1, List.cons_append, List.nil_append, List.append_nil, renMem_oK_cons hn1, ocell_ren hlo, ite_self] <;> rfl
  ·have hq : ¬ 0 ≤ q := by simpa using hc
   have hv0 : dE pl (q, o) = (q, o) := by simp only [dE, if_neg hq]
   have hSX := fun X => otab_setX 2 edgeC W X (q, o) hT hi2
   refine EvC.skip ?_
   apply EvC.drwA mixed
   ·apply Tr.done
    ·simp only [go_sem, hpT, intC, hL2, n1, n2, n3, hlp, ocell_get hT, hGX, hgc1, hgc2, hSX, hMX, hoc, Int.toNat_natCast, edgeC] <;> rfl
    ·simp [hlp, hoc, hT, hi2]; omega
   ·exact confAllA_slots (by simp [rdOk, slotsOf, opSlots, memless, Op.operands, Call.operands]) (by kernel_rfl)
   refine EvC.bi ?_
   refine ⟨osegK [(1000000, 1000000), (1000001, 1000001)] n [(0, 0), (1, 1), (2, 2)], i + 1, osegK_okB (A := [(1000000, 1000000), (1000001, 1000001)]) (B := [(0, 0), (1, 1), (2, 2)]) rfl rfl rfl rfl rfl rfl rfl hn1 (by omega), ?_, by omega, by omega⟩
   have hlo := hlo (A := [(1000000, 1000000), (1000001, 1000001)]) (B := [(0, 0), (1, 1), (2, 2)]) rfl
   have hdr : dRow pl a s (i + 1) (dTab pl a N s) = upd2 W t i (q, o) := by rw [dRow, ← hW, hT0, hee, hv0]
   rw [hdr]
   have hSX2 := fun X => otab_setX 2 edgeC W X (q, o) hT hi2
   simp only [edgeC] at hSX2
   simp only [go_sem, hN, hSX2, Int.natCast_add, Int.natCast_one, LD.cells, LM.cells, Mach.cells, hLX, hRX, renMem_osegK, renMem, rlook_osegK_hi hn1, List.cons_append, List.nil_append, List.append_nil, renMem_oK_cons hn1, ocell_ren hlo, ite_self] <;> rfl
 have hi2 : i < n := by simpa using hc
 refine EvC.skip ?_
 refine EvC.seq ?_
 refine EvC.block ?_
 refine EvC.b ?_ (by simp only [go_sem, hl] <;> rfl) (by simp [room_eq, hl]; omega)
 refine EvC.bi ?_
 refine ⟨[(0, 0), (1, 1), (2, 2)], i + 1, rfl, (by simp only [go_sem, LD.cells, LM.cells, Mach.cells, List.cons_append, List.nil_append] <;> rfl), by omega, by omega⟩
theorem WOk.of {n : Int} {w : List Int} (hn : 1 ≤ n) (h : ∀ a ∈ w, 0 ≤ a ∧ a < n) : WOk n.toNat w := fun a ha => by have := h a ha; omega
theorem WOk.ok {n : Int} {w : List Int} (h : WOk n.toNat w) : ∀ a ∈ w, 0 ≤ a ∧ a < n := fun a ha => by have := h a ha; omega
theorem concatAll {n : Int} (hn : 1 ≤ n ∧ n ≤ 3) {w u : List Int} (hw : wordErr n w = 0) (hu : wordErr n u = 0) (hl : w.length + u.length ≤ 256) (e1 e2 : Bool) (c1 c2 c : Cp) :
  PureIs prog 11 [.sc (.int .i64 n), .sl false [[.sl e1 (w.map intC) c1], [.sl e2 (u.map intC) c2]] c] (.tu [.sl (w ++ u).isEmpty ((w ++ u).map intC) .full, .sc (.int .i64 0)]) := by
 rcases Nat.eq_zero_or_pos (w ++ u).length with h | h
 ·obtain ⟨rfl, rfl⟩ : w = [] ∧ u = [] := by simpa using h
  have : n = 1 ∨ n = 2 ∨ n = 3 := by omega
  rcases this with rfl | rfl | rfl
  ·exact concatE1 ..
  ·exact concatE2 ..
  ·exact concatE3 ..
 ·have hf : flatL [(e1, w), (e2, u)] = w ++ u := by simp [flatL]
  have h1 := concat11_is (n := n) false [(e1, w), (e2, u)] .unk (by simp) (by simp [hw, hu]) (by simp; omega) (by rw [hf]; exact h) (by rw [hf, List.length_append]; omega)
  rw [hf] at h1
  have he : (w ++ u).isEmpty = false := by rw [isEmpty_len]; simp only [beq_eq_false_iff_ne]; omega
  rw [he]
  have key : ∀ x : List Int, AV.unkss (x.map intC) = x.map intC := unkss_map intC (fun _ => rfl)
  refine PureIs.weak ?_
  simpa only [List.map_cons, List.map_nil, listC, AV.unk, AV.unks, AV.unkss, key] using h1
set_option maxHeartbeats 8000000 in
theorem topRank_law (d : LD) {a b : Mach} (hD : PureIs prog 5 [.ag d.cells] (.tu [.ag a.cells, .ag b.cells])) (ha : Valid a) (hb : Valid b) (hab : a.ins = b.ins) (hra : a.rows.length ≤ 6) (hrb : b.rows.length ≤ 6) (hi : a.ins ≤ 3) (hlv : PureIs prog 12 [] (.sc (.bool true)))
  (ny : Bool) (y : List Int) (cy : Cp) (hy : ∀ x ∈ y, 0 ≤ x ∧ x < 256) (nz : Bool) (z : List Int) (cz : Cp) (hz : ∀ x ∈ z, 0 ≤ x ∧ x < 256) :
  PureIs prog 3 [.ag d.cells, .ag [.sl ny (y.map u8C) cy], .ag [.sl nz (z.map u8C) cz]] (.sc (.bool true)) := by
 have hin := ha.ins
 have hrw := ha.rows
 have hrwb := hb.rows
 have hdf := equals_differ_is a b ha.small hb.small
 have hbo : bothR a b = 0 := by
  unfold bothR
  rw [checkM_of ha, checkM_of hb]
  simp [hab]
 rw [differA, if_pos hbo] at hdf
 have hdl := diff_least ha hb hab
 have hW : WOk a.ins.toNat (diffW a b) ∧ (diffW a b).length ≤ 11 := by
  rcases hdl with ⟨h1, h2⟩ | ⟨h1, h2, h3⟩
  ·have := least_len ha hb hab h2
   exact ⟨h2.1, by omega⟩
  ·rw [h2]; refine ⟨fun _ h => ?_, Nat.zero_le _⟩
   cases h
 obtain ⟨isn, his⟩ : ∃ t, t = (diffO a b).isSome := ⟨_, rfl⟩
 have hno : (diffO a b).isNone = !isn := by rw [his]; cases diffO a b <;> rfl
 rw [hno, ← his] at hdf
 have hdl : (isn = true ∧ Least2 a b (diffW a b)) ∨ (isn = false ∧ diffW a b = [] ∧ ∀ v, WOk a.ins.toNat v → runR a 0 v = runR b 0 v) := by
  rcases hdl with ⟨h1, h2⟩ | ⟨h1, h2⟩
  ·exact Or.inl (And.intro (his.trans h1) h2)
  ·exact Or.inr (And.intro (by rw [his, h1]; rfl) h2)
 clear his hno
 generalize diffW a b = w at hdf hW hdl
 generalize (if (!isn) = true then Cp.zer else Cp.full) = cw at hdf
 have c1 := wOf_is ny y cy a.ins hin.1 hy
 have c2 := wOf_is nz z cz a.ins hin.1 hz
 have hv := wOf_ok (l := y) hin.1
 have hu := wOf_ok (l := z) hin.1
 have hvl := wOf_len y a.ins
 have hul := wOf_len z a.ins
 generalize wOf y a.ins = v at c1 hv hvl
 generalize wOf z a.ins = u at c2 hu hul
 have ev : wordErr a.ins v = 0 := wordErr_of hin (by omega) hv
 have eu : wordErr a.ins u = 0 := wordErr_of hin (by omega) hu
 have ew : wordErr a.ins w = 0 := wordErr_of hin (by omega) hW.1.ok
 have hwu : ∀ x ∈ w ++ u, 0 ≤ x ∧ x < a.ins := fun x hx => by
  rcases List.mem_append.1 hx with hx | hx
  ·exact hW.1.ok x hx
  ·exact hu x hx
 have ewu : wordErr a.ins (w ++ u) = 0 := wordErr_of hin (by simp; omega) hwu
 have c3 := run52_is ha 0 ⟨by omega, by omega⟩ v.isEmpty v .unk ev (by omega)
 have c4 := run52_is hb 0 ⟨by omega, by omega⟩ v.isEmpty v .unk (by rw [← hab]; exact ev) (by omega)
 have rv := rkI_small (k := a.ins.toNat) (by omega) (w := v) (WOk.of hin.1 hv) (by omega)
 have rw' := rkI_small (k := a.ins.toNat) (by omega) (w := w) hW.1 (by omega)
 have hti : ((a.ins.toNat : Nat) : Int) = a.ins := Int.toNat_of_nonneg (by omega)
 have kv := rkI_rank (k := a.ins.toNat) _ v rfl (WOk.of hin.1 hv)
 have kw := rkI_rank (k := a.ins.toNat) _ w rfl hW.1
 rw [hti] at rv rw' kv kw
 have c5 := rank_is v.isEmpty v .unk hin ev (by omega) (by omega)
 have c6 := rank_is (!isn) w cw hin ew (by omega) (by omega)
 have c7 := same_is false (runR a 0 v) .unk false (runR b 0 v) .unk (by rw [runR_len]; omega)
 have c8 := concatAll ⟨hin.1, hi⟩ ew eu (by omega) (!isn) u.isEmpty cw .unk .full
 have c9 := run52_is ha 0 ⟨by omega, by omega⟩ (w ++ u).isEmpty (w ++ u) .full ewu (by simp; omega)
 have c10 := run52_is hb 0 ⟨by omega, by omega⟩ (w ++ u).isEmpty (w ++ u) .full (by rw [← hab]; exact ewu) (by simp; omega)
 have c11 := same_is false (runR a 0 (w ++ u)) .unk false (runR b 0 (w ++ u)) .unk (by rw [runR_len]; simp; omega)
 have hvk : isn = false → runR a 0 v = runR b 0 v := fun h => by
  rcases hdl with ⟨h1, _⟩ | ⟨_, _, h3⟩
  ·rw [h1] at h; cases h
  ·exact h3 v (WOk.of hin.1 hv)
 have hlt : runR a 0 v ≠ runR b 0 v → ¬ rkI a.ins v < rkI a.ins w := fun h => by
  rcases hdl with ⟨_, h2⟩ | ⟨_, _, h3⟩
  ·have := h2.2.2 v (WOk.of hin.1 hv) h
   rw [kv, kw]; omega
  ·exact absurd (h3 v (WOk.of hin.1 hv)) h
 have hlong : isn = true → runR a 0 (w ++ u) ≠ runR b 0 (w ++ u) := fun h he => by
  rcases hdl with ⟨_, h2⟩ | ⟨h1, _⟩
  ·rw [runR_app, runR_app] at he
   exact h2.2.1 (List.append_inj he (by rw [runR_len, runR_len])).1
  ·rw [h1] at h; cases h
 generalize runR a 0 v = p at c3 c7 hvk hlt
 generalize runR b 0 v = q at c4 c7 hvk hlt
 generalize runR a 0 (w ++ u) = pl at c9 c11 hlong
 generalize runR b 0 (w ++ u) = ql at c10 c11 hlong
 generalize rkI a.ins v = n at c5 hlt rv
 generalize rkI a.ins w = k at c6 hlt rw'
 generalize w ++ u = wu at c8 c9 c10
 have hMa : a.cells = [.sc (.int .i64 a.ins), .sc (.int .i64 a.outs), .sl a.nl (a.rows.map rowC) .unk] := rfl
 have hMb : b.cells = [.sc (.int .i64 b.ins), .sc (.int .i64 b.outs), .sl b.nl (b.rows.map rowC) .unk] := rfl
 rw [hMa] at hD hdf c3 c9
 rw [hMb] at hD hdf c4 c10
 simp only [LD.cells, LM.cells, List.cons_append, List.nil_append] at hD ⊢
 refine PureIs.of1 23 [82, 95] func3 ntmps3 results3 fun _ => ?_
 refine EvC.a ?_
 refine EvC.z 0 ?_
 refine EvC.z 1 ?_
 refine EvC.z 2 ?_
 refine EvC.k1 ?_ (c1 := .ca hD)
 refine EvC.z 9 ?_
 refine EvC.z 10 ?_
 refine EvC.gc [4, 5, 6, 7, 8] [] 0 rfl ?_
 refine EvC.k1 ?_ (c1 := .ca hdf)
 refine EvC.k1 ?_ (c1 := .ca c1)
 refine EvC.k1 ?_ (c1 := .ca c3)
 refine EvC.k1 ?_ (c1 := .ca c4)
 refine EvC.k1 ?_ (c1 := .ca c5)
 refine EvC.k1 ?_ (c1 := .ca c6)
 refine EvC.seq ?_
 refine EvC.g ?_
 refine EvC.cs ?_
 refine EvC.seq ?_
 refine EvC.k1 ?_ (c1 := .ca c7)
 have hcf : (if (!decide (p = q)) = true then if (!isn) = true then true else decide (n < k) else false) = false := by
  by_cases hpq : p = q
  ·simp [hpq]
  ·cases isn
   ·exact absurd (hvk rfl) hpq
   ·simp [hpq]; have := hlt hpq; omega
 refine EvC.cs ?_ (by simp only [go_sem, hcf] <;> rfl)
 refine EvC.gc [4, 5, 6, 7, 8, 9, 10] [] 0 rfl ?_
 refine EvC.k2D mixed ?_ (c1 := .ca c2) (c2 := .ca c8)
 refine EvC.gc [6, 7, 8, 10, 21, 22] [] 0 rfl ?_
 refine EvC.k1 ?_ (c1 := .ca c9)
 refine EvC.k1 ?_ (c1 := .ca c10)
 cases isn
 ·apply EvC.s1
  ·apply Tr.run
   ·simp only [go_sem] <;> rfl
   ·simp
   apply Tr.cons
   ·exact .skipv (.sc (.bool true)) rfl rfl (by simp only [go_sem] <;> rfl) (by simp only [go_sem] <;> rfl)
   apply Tr.run
   ·simp only [go_sem] <;> rfl
   ·simp
   apply Tr.cons
   ·exact .cg (hlv)
   apply Tr.done
   ·simp only [go_sem] <;> rfl
   ·simp
  refine EvC.rz ?_
  simp only [go_sem]
 ·have hpq : decide (pl = ql) = false := decide_eq_false (hlong rfl)
  rw [hpq] at c11
  refine EvC.k2 ?_ (c1 := .cg c11) (c2 := .cg hlv)
  refine EvC.rz ?_
  simp only [go_sem]
theorem dOf_is {d : LD} (h : d.Ok) : ∃ b : Mach, Valid b ∧ d.x.mach.ins = b.ins ∧ b.rows.length ≤ 6 ∧ PureIs prog 5 [.ag d.cells] (.tu [.ag d.x.mach.cells, .ag b.cells]) := by
 cases hs : d.sw
 ·refine ⟨_, LM.valid (LD.y2_ok h), ?_, ?_, dOf0_is h hs⟩
  ·rfl
  ·have := LM.bounds (LD.y2_ok h)
   simp only [LM.mach, List.length_map, List.length_range]; omega
 ·obtain ⟨h1, h2, h3⟩ := dRes_ok (LM.valid h.x) d.q0 d.q1 d.e h.p0.1 h.p1.1
  refine ⟨_, h1, h2.symm, ?_, dOf1_is h hs⟩
  have := LM.bounds h.x
  rw [h3]
  simp only [LM.mach, List.length_map, List.length_range]; omega
theorem topRank_of (hlv : PureIs prog 12 [] (.sc (.bool true))) {d : LD} (h : d.Ok) (ny : Bool) (y : List Int) (cy : Cp) (hy : ∀ x ∈ y, 0 ≤ x ∧ x < 256) (nz : Bool) (z : List Int) (cz : Cp) (hz : ∀ x ∈ z, 0 ≤ x ∧ x < 256) :
  PureIs prog 3 [.ag d.cells, .ag [.sl ny (y.map u8C) cy], .ag [.sl nz (z.map u8C) cz]] (.sc (.bool true)) := by
 obtain ⟨b, h1, h2, h3, h4⟩ := dOf_is h
 have hb := LM.bounds h.x
 refine topRank_law d h4 (LM.valid h.x) h1 h2 ?_ h3 ?_ hlv ny y cy hy nz z cz hz
 ·simp only [LM.mach, List.length_map, List.length_range]; omega
 ·simp only [LM.mach]; omega
theorem topRank_is {d : LD} (h : d.Ok) (ny : Bool) (y : List Int) (cy : Cp) (hy : ∀ x ∈ y, 0 ≤ x ∧ x < 256) (nz : Bool) (z : List Int) (cz : Cp) (hz : ∀ x ∈ z, 0 ≤ x ∧ x < 256) :
  PureIs prog 3 [.ag d.cells, .ag [.sl ny (y.map u8C) cy], .ag [.sl nz (z.map u8C) cz]] (.sc (.bool true)) :=
 topRank_of live12_is h ny y cy hy nz z cz hz
end Go.Avl
