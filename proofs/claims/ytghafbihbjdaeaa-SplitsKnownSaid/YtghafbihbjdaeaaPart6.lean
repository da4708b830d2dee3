/-
  Lemmas.
  Lemmas.
  Lemmas.
  Lemmas.
  Lemmas.
  Lemmas.
  Lemmas.
  Lemmas.
  Lemmas.
  Lemmas.
  Lemmas.
  Lemmas.
  From a law's row to its contract: arguments opened, and read again behind the call.
-/
import Derived.ProofKit
import Derived.OpenShut
import Derived.Test.YtghafbihbjdaeaaPart5
set_option linter.unusedSimpArgs false
set_option linter.unusedVariables false
set_option linter.unnecessarySimpa false
set_option linter.deprecated false
namespace Go.Avl
open Go Go.Proofs.Try
set_option maxRecDepth 10000
set_option linter.unusedSimpArgs false

abbrev LRow := Bool × List Int
def listC (r : LRow) : List AV := [.sl r.1 (r.2.map intC) .unk]
@[go_sem] theorem norefs_lists (l : List LRow) : (l.map listC).all AV.norefs = true := by simp [List.all_eq_true, listC, AV.norefs, AV.noref]
def flatL (ls : List LRow) : List Int := (ls.map (·.2)).flatten
theorem flatL_cons (r : LRow) (ls : List LRow) : flatL (r :: ls) = r.2 ++ flatL ls := by simp [flatL]
theorem concat_is (nl : Bool) (ls : List LRow) (c : Cp) (hl : ls.length < 1000000) (h0 : 0 < (flatL ls).length) (h1 : (flatL ls).length < 1000000) :
    PureIs prog 65 [.sl nl (ls.map listC) c] (.sl false ((flatL ls).map intC) .unk) := by
  refine PureIs.of (nv := 1) (hid := [2, 3, 5, 6, 8, 9, 10, 11, 12, 20, 25, 26, 27, 28]) func65 rfl (by kernel_rfl) (by simp [ntmps65]) fun _ => ?_
  rw [ntmps65, results65]
  refine EvC.seq (EvC.rg (by (simp only [go_sem]) <;> rfl) (by simp) ?_)
  refine EvC.seq (EvC.rg (by (simp only [go_sem]) <;> rfl) (by simp) ?_)
  refine EvC.seq ?_
  refine EvC.seq (EvC.rg (by (simp only [go_sem]) <;> rfl) (by simp) ?_)
  refine EvC.block ?_  -- 0
  refine EvC.loopS (σ := Nat × Int) (fun g => ⟨[(0, .sl nl (ls.map listC) c), (3, .sc (.int .i64 g.2)), (9, .sl nl (ls.map listC) c), (10, .sc (.int .i64 ls.length)), (11, .sc (.int .i64 g.1))], [], [], 0⟩) (fun g => ls.length - g.1)
    (fun g => g.1 ≤ ls.length ∧ 0 ≤ g.2 ∧ ((flatL ls).length : Int) = g.2 + ((flatL (ls.drop g.1)).length : Nat)) [0, 3, 9, 10, 11] 0 ?_ ?_
  · refine ⟨[], (0, 0), rfl, (by (simp only [go_sem]) <;> rfl), Nat.zero_le _, Int.le_refl _, by simp⟩
  rintro ⟨i, z⟩ ⟨h2, h3, h4⟩
  simp only at h2 h3 h4
  refine EvC.seq (EvC.rg (by (simp only [go_sem]) <;> rfl) (by simp) ?_)
  refine EvC.seq ?_
  refine EvC.cond (by (simp only [go_sem]) <;> rfl) (fun hc => ?_) (fun hc => ?_)
  rotate_left
  · refine EvC.exit ?_  -- 0
    obtain rfl : i = ls.length := by have : ¬ i < ls.length := by simpa using hc
                                     omega
    have hz : z = (flatL ls).length := by rw [h4]; simp [flatL]
    subst hz
    clear h2 h3 h4 hc
    have hz0 : 0 < ((flatL ls).length : Int) := by omega
    apply EvC.seq  -- R9
    apply EvC.rs
    · (simp only [go_sem]) <;> rfl
    · simp
    refine XR.callB 2 [4, 6, 16] rfl rfl (by (simp only [go_sem]) <;> rfl) (by (simp only [go_sem]) <;> rfl) (by (simp only [go_sem, bodyArgs]) <;> rfl) func69 rfl (by kernel_rfl) (by simp [ntmps69]) fun _ => ?_
    rw [ntmps69, results69]
    refine EvC.seq (EvC.rg (by (simp only [go_sem]) <;> rfl) (by simp) ?_)
    refine EvC.seq ?_
    refine EvC.seq (EvC.rg (by (simp only [go_sem]) <;> rfl) (by simp) ?_)
    have hneg : decide (((flatL ls).length : Int) < 0) = false := by simp
    refine EvC.cond_false (by (simp only [go_sem, hneg]) <;> rfl) ?_
    refine EvC.skip ?_
    refine EvC.seq ?_
    have hI1 : inI64 ((flatL ls).length : Int) = true := inI64_of (by omega) (by omega)
    have hI2 : inI64 (0 : Int) = true := inI64_of (by omega) (by omega)
    refine EvC.seq (EvC.rg (by (simp only [go_sem, Int.sub_self, Int.sub_zero]) <;> rfl) (by simp [hI1, hI2]) ?_)
    refine EvC.seq (EvC.rg (by (simp only [go_sem]) <;> rfl) (by simp) ?_)
    have hpos : decide (0 < ((flatL ls).length : Int)) = true := by simp; omega
    refine EvC.cond_true (by (simp only [go_sem, hpos]) <;> rfl) ?_
    have hzz : ∀ n : Nat, List.replicate n [AV.sc (.int .i64 0)] = (List.replicate n (0 : Int)).map intC := fun n => by simp [intC]
    have hne : ¬ (flatL ls).length = 0 := by omega
    refine EvC.rg (by (simp only [go_sem, cutHead, Int.toNat_natCast, Int.toNat_zero, hzz, List.length_map, List.length_replicate, Nat.sub_self]) <;> rfl) (by simp [room_eq, hpos, hne]; omega) ?_
    refine EvC.seq (EvC.rg (by (simp only [go_sem]) <;> rfl) (by simp) ?_)
    refine EvC.ret ⟨.inl rfl, _, (by (simp only [go_sem, resAllR, resOneR]) <;> rfl), ?_⟩
    refine XR.shrink 24 (by (simp only [go_sem, List.length_map, List.length_replicate]) <;> rfl) ?_
    refine XR.done (by (simp only [go_sem]) <;> rfl) (by simp) ?_
    refine EvC.seq ?_
    refine EvC.seq (EvC.rg (by (simp only [go_sem]) <;> rfl) (by simp) ?_)
    refine EvC.block ?_  -- 2
    refine EvC.loopS (σ := Nat × List Int) (fun g => ⟨[(6, .tl 0 g.2.length false), (25, .sl nl (ls.map listC) c), (26, .sc (.int .i64 ls.length)), (27, .sc (.int .i64 g.1))], [], [(0, .arr 1 (g.2.map intC) false)], 1⟩) (fun g => ls.length - g.1)
      (fun g => g.1 ≤ ls.length ∧ flatL ls = g.2 ++ flatL (ls.drop g.1)) [6, 25, 26, 27] 1 ?_ ?_
    · exact ⟨[(27, 0)], (0, []), rfl, (by (simp only [go_sem]) <;> rfl), Nat.zero_le _, by simp⟩
    rintro ⟨i, out⟩ ⟨h2, h3⟩
    simp only at h2 h3
    have hol : out.length < 1000000 := by rw [h3] at h1; simp at h1; omega
    refine EvC.seq (EvC.rg (by (simp only [go_sem]) <;> rfl) (by simp) ?_)
    refine EvC.seq ?_
    refine EvC.cond (by (simp only [go_sem]) <;> rfl) (fun hc => ?_) (fun hc => ?_)
    rotate_left
    · refine EvC.exit ?_  -- 2
      obtain rfl : i = ls.length := by have : ¬ i < ls.length := by simpa using hc
                                       omega
      have ho : out = flatL ls := by rw [h3]; simp [flatL]
      subst ho
      refine EvC.frz 0 (by (simp only [go_sem, List.length_map]) <;> rfl) ?_
      refine EvC.seq (EvC.rg (by (simp only [go_sem]) <;> rfl) (by simp) ?_)
      refine EvC.ret ⟨.inl rfl, _, (by (simp only [go_sem]) <;> rfl), ?_, rfl⟩
      simp only [go_sem]
    have hi : i < ls.length := by simpa using hc
    have he : ls[i]? = some ls[i] := List.getElem?_eq_getElem hi
    have hd : ls.drop i = ls[i] :: ls.drop (i + 1) := List.drop_eq_getElem_cons hi
    generalize ls[i] = r at he hd
    rw [hd, flatL_cons] at h3
    have hrl : out.length + r.2.length < 1000000 := by rw [h3] at h1; simp at h1; omega
    refine EvC.skip ?_
    refine EvC.seq ?_
    refine EvC.block ?_  -- 3
    refine EvC.seq (EvC.rg (by (simp only [go_sem, he, listC]) <;> rfl) (by simp) ?_)
    refine EvC.rg (by (simp only [go_sem]) <;> rfl) (by simp [room_eq, intC]; omega) ?_
    refine EvC.rg (by (simp only [go_sem]) <;> rfl) (by exact inI64_of (by omega) (by omega)) ?_
    exact ⟨[(0, 0)], (i + 1, out ++ r.2), rfl, (by (simp only [go_sem, List.length_append, List.length_map, List.isEmpty_map]) <;> rfl), ⟨by simp only; omega, by simp only; rw [h3, List.append_assoc]⟩, by simp only; omega⟩
  have hi : i < ls.length := by simpa using hc
  have he : ls[i]? = some ls[i] := List.getElem?_eq_getElem hi
  have hd : ls.drop i = ls[i] :: ls.drop (i + 1) := List.drop_eq_getElem_cons hi
  generalize ls[i] = r at he hd
  rw [hd, flatL_cons, List.length_append] at h4
  have hI : inI64 (z + r.2.length) = true := inI64_of (by omega) (by omega)
  have hz : decide (z + (r.2.length : Int) < 0) = false := by simp; omega
  refine EvC.skip ?_
  refine EvC.seq ?_
  refine EvC.block ?_  -- 1
  refine EvC.seq (EvC.rg (by (simp only [go_sem, he, listC]) <;> rfl) (by simp) ?_)
  refine EvC.seq (EvC.rg (by (simp only [go_sem]) <;> rfl) (by simp [hI]) ?_)
  refine EvC.seq (EvC.rg (by (simp only [go_sem]) <;> rfl) (by simp) ?_)
  refine EvC.cond_false (by (simp only [go_sem, hz]) <;> rfl) ?_
  refine EvC.skip ?_
  refine EvC.rg (by (simp only [go_sem]) <;> rfl) (by exact inI64_of (by omega) (by omega)) ?_
  refine ⟨[], (i + 1, z + r.2.length), rfl, (by (simp only [go_sem]) <;> rfl), ⟨by simp only; omega, by simp only; omega, ?_⟩, by simp only; omega⟩
  simp only; omega
end Go.Avl
namespace Go.Avl
open Go Go.Proofs.Try
set_option maxRecDepth 10000
set_option linter.unusedSimpArgs false

/-- The words that are found: none is nil. -/
abbrev WT := Nat → Nat → List Int
def cpW (l : List Int) : Cp := if l = [] then .zer else .full
def wA (l : List Int) : AV := .sl l.isEmpty (l.map intC) (cpW l)
def wTab (W : WT) : List AV := (List.range 4096).map fun k => wA (W (k / 64) (k % 64))
def updW (W : WT) (s t : Nat) (w : List Int) : WT := fun a b => if a = s ∧ b = t then w else W a b
theorem wTab_len (W : WT) : (wTab W).length = 4096 := by simp [wTab]
@[go_sem] theorem norefs_wTab (W : WT) : AV.norefs (wTab W) = true := by
  have key : ∀ l : List AV, (∀ x ∈ l, x.noref = true) → AV.norefs l = true := fun l => by
    induction l with
    | nil => intro _; rfl
    | cons x l ih =>
      intro h
      simp only [AV.norefs, Bool.and_eq_true]
      exact ⟨h x List.mem_cons_self, ih fun y hy => h y (List.mem_cons_of_mem _ hy)⟩
  refine key _ fun x hx => ?_
  obtain ⟨k, _, rfl⟩ := List.mem_map.1 hx
  rfl
theorem wTab_at (W : WT) {s t : Nat} (hs : s < 64) (ht : t < 64) : (wTab W)[s * 64 + t]? = some (wA (W s t)) := by
  unfold wTab
  rw [List.getElem?_map, List.getElem?_range (by omega)]
  have h1 : (s * 64 + t) / 64 = s := by omega
  have h2 : (s * 64 + t) % 64 = t := by omega
  rw [Option.map_some, h1, h2]
theorem wTab_get (W : WT) {s t : Nat} (hs : s < 64) (ht : t < 64) : List.take 1 (List.drop (s * 64 + t) (wTab W)) = [.sl (W s t).isEmpty ((W s t).map intC) (cpW (W s t))] := by
  have h := wTab_at W hs ht
  obtain ⟨h1, h2⟩ := List.getElem?_eq_some_iff.1 h
  rw [List.drop_eq_getElem_cons h1, h2]
  rfl
theorem wTab_set (W : WT) {s t : Nat} (hs : s < 64) (ht : t < 64) (w : List Int) (x : AV) (hx : x = wA w) : List.take (s * 64 + t) (wTab W) ++ [x] ++ List.drop (s * 64 + t + 1) (wTab W) = wTab (updW W s t w) := by
  subst hx
  have hl := wTab_len W
  refine List.ext_getElem? fun k => ?_
  by_cases hk : k < 4096
  · have hk1 : k / 64 < 64 := by omega
    have hkk : k = k / 64 * 64 + k % 64 := by omega
    have hr : (wTab (updW W s t w))[k]? = some (wA (updW W s t w (k / 64) (k % 64))) := by
      have := wTab_at (updW W s t w) hk1 (show k % 64 < 64 by omega)
      rw [← hkk] at this; exact this
    have h0 : (wTab W)[k]? = some (wA (W (k / 64) (k % 64))) := by
      have := wTab_at W hk1 (show k % 64 < 64 by omega)
      rw [← hkk] at this; exact this
    rw [hr]
    by_cases h1 : k < s * 64 + t
    · rw [List.getElem?_append_left (by simp; omega), List.getElem?_append_left (by simp; omega), List.getElem?_take, if_pos h1, h0]
      have : ¬ (k / 64 = s ∧ k % 64 = t) := by omega
      simp only [updW, if_neg this]
    · by_cases h2 : k = s * 64 + t
      · subst h2
        rw [List.getElem?_append_left (by simp; omega), List.getElem?_append_right (by simp; omega)]
        have h3 : (s * 64 + t) / 64 = s := by omega
        have h4 : (s * 64 + t) % 64 = t := by omega
        simp only [updW, h3, h4, and_self, if_true, List.length_take, hl]
        rw [Nat.min_eq_left (by omega), Nat.sub_self]; rfl
      · rw [List.getElem?_append_right (by simp; omega), List.getElem?_drop]
        have h3 : s * 64 + t + 1 + (k - (List.take (s * 64 + t) (wTab W) ++ [wA w]).length) = k := by simp; omega
        rw [h3, h0]
        have : ¬ (k / 64 = s ∧ k % 64 = t) := by omega
        simp only [updW, if_neg this]
  · rw [List.getElem?_eq_none (by simp; omega), List.getElem?_eq_none (by rw [wTab_len]; omega)]
@[go_sem] theorem nilsV_tab : List.map ofCell nilsV = wTab fun _ _ => [] := by
  unfold nilsV wTab
  rw [List.map_replicate]
  refine List.ext_getElem? fun k => ?_
  by_cases hk : k < 4096
  · rw [List.getElem?_replicate, if_pos hk, List.getElem?_map, List.getElem?_range hk]; rfl
  · rw [List.getElem?_eq_none (by rw [List.length_replicate]; omega), List.getElem?_eq_none (by rw [List.length_map, List.length_range]; omega)]
theorem wTab_all (M : List (Nat × RObj)) (W : WT) : (wTab W).all (acell M) = true := by
  rw [List.all_eq_true]
  intro x hx
  obtain ⟨k, _, rfl⟩ := List.mem_map.1 hx
  rfl

/-- The separating word of two states by the words that are found, if it has so many symbols. -/
def srchW (W : WT) (n : Nat) : List (Int × Int) → List (Int × Int) → Nat → List Int
  | x :: xs, y :: ys, i => if x.2 ≠ y.2 then [(i : Int)] else if 1 < n ∧ x.1 ≠ -1 ∧ (W x.1.toNat y.1.toNat).length + 1 = n then (i : Int) :: W x.1.toNat y.1.toNat else srchW W n xs ys (i + 1)
  | _, _, _ => []
def rowAt (m : Mach) (s : Nat) : List (Int × Int) := ((m.rows[s]?).map (·.2)).getD []
def stepW (m : Mach) (W : WT) (s t n : Nat) : List Int := if (srchW W n (rowAt m s) (rowAt m t) 0).length = n then srchW W n (rowAt m s) (rowAt m t) 0 else []
end Go.Avl
namespace Go.Avl
open Go Go.Proofs.Try
set_option maxRecDepth 10000
set_option linter.unusedSimpArgs false

theorem rowAt_get {m : Mach} (hv : Valid m) {s : Nat} (hs : s < m.rows.length) : ∃ r, m.rows[s]? = some r ∧ rowAt m s = r.2 ∧ (r.2.length : Int) = m.ins ∧ ∀ e ∈ r.2, fitsR m.rows.length m.outs e.1 e.2 = true := by
  have h1 : m.rows[s]? = some m.rows[s] := List.getElem?_eq_getElem hs
  obtain ⟨h2, h3⟩ := hv.row _ (List.getElem_mem hs)
  exact ⟨_, h1, by unfold rowAt; rw [h1]; rfl, h2, h3⟩
abbrev NowT := List ((Nat × Nat) × List Int)
def nowC (p : (Nat × Nat) × List Int) : List AV := [.sc (.int .i64 p.1.1), .sc (.int .i64 p.1.2), .sl false (p.2.map intC) .full, .sc (.bool false)]
@[go_sem] theorem norefs_now (l : NowT) : (l.map nowC).all AV.norefs = true := by simp [List.all_eq_true, nowC, AV.norefs, AV.noref]
def memF (W : WT) (n : Nat) (now : NowT) : Mem := [(0, .cells (wTab W)), (1, .cells [.rf 0 0]), (2, .cells [.sc (.int .i64 n)]), (3, .cells [.tl 4 now.length now.isEmpty]), (4, .arr 4 (now.map nowC) true)]
def frStep : Fr := ⟨5, 5, [6, 10, 11, 12, 13, 14, 19, 20, 21, 22, 34, 42, 82], 85⟩
theorem fits_cases {n o a b : Int} (h : fitsR n o a b = true) : (a = -1 ∧ b = -1) ∨ (0 ≤ a ∧ a < n ∧ 0 ≤ b ∧ b < o) := by
  unfold fitsR at h; simp at h; omega
theorem concat2_is (i : Int) (e : Bool) (w : List Int) (cp : Cp) (hl : w.length < 1000) : PureIs prog 65 [.sl false [[.sl false [[.sc (.int .i64 i)]] .full], [.sl e (w.map intC) cp]] .full] (.sl false ((i :: w).map intC) .unk) := by
  refine PureIs.weak ?_
  have hw : AV.unkss (w.map intC) = w.map intC := unkss_map intC (fun x => rfl) w
  have := concat_is false [(false, [i]), (e, w)] .unk (by simp) (by simp [flatL]) (by simp [flatL]; omega)
  simpa [AV.unk, AV.unks, AV.unkss, hw, listC, intC, flatL] using this
theorem step_body {m : Mach} (hv : Valid m) (W : WT) (hW : ∀ a b, (W a b).length < 64) (s t n : Nat) (hs : s < m.rows.length) (ht : t < m.rows.length) (hn : 1 ≤ n ∧ n < 64) (now : NowT) (h0 : Nat) :
    ∀ c, Go.Proofs.Try.f51.body = some c → EvC prog frStep none ⟨h0, none, false⟩ c ⟨vars0 0 [.rf 0 0, .ag m.cells, .sc (.int .i64 s), .sc (.int .i64 t), .sc (.int .i64 n)], [], memF W n now, 5⟩
      (fun e st' => e = .ret ∧ ∃ cp, (stepW m W s t n ≠ [] → cp = .full) ∧ st' = ⟨[(10, .sl (stepW m W s t n).isEmpty ((stepW m W s t n).map intC) cp)], [], memF W n now, 5⟩) := by
  intro c hc
  cases hc
  obtain ⟨r1, q1, q2, q3, q4⟩ := rowAt_get hv hs
  obtain ⟨r2, p1, p2, p3, p4⟩ := rowAt_get hv ht
  have hins := hv.ins
  have hrw := hv.rows
  have hstep : stepW m W s t n = if (srchW W n r1.2 r2.2 0).length = n then srchW W n r1.2 r2.2 0 else [] := by unfold stepW; rw [q2, p2]
  unfold memF frStep
  refine EvC.seq (EvC.rg (by (simp only [go_sem, Mach.cells]) <;> rfl) (by simp) ?_)
  refine EvC.frzB 5 (by (simp only [go_sem]) <;> rfl) ?_
  refine EvC.scope ?_
  apply EvC.seq
  apply EvC.rg
  · (simp only [go_sem]) <;> rfl
  · simp
  refine EvC.frz 6 (by (simp only [go_sem]) <;> rfl) ?_
  refine EvC.frz 7 (by (simp only [go_sem]) <;> rfl) ?_
  apply EvC.seq
  apply EvC.label
  apply EvC.seq
  obtain ⟨o, ho⟩ : ∃ o, o = srchW W n r1.2 r2.2 0 := ⟨_, rfl⟩
  refine EvC.mono (Q := fun e st' => e = .normal ∧ ∃ cp, st' = ⟨[(4, .sc (.int .i64 n)), (10, .sl true [] .unk), (11, .sl o.isEmpty (o.map intC) cp)], [], memF W n now, 5⟩) ?_ ?_
  · apply EvC.seq
    apply EvC.rg
    · (simp only [go_sem, Mach.cells, q1, rowC, Int.toNat_natCast]) <;> rfl
    · simp
    refine EvC.block ?_  -- 0
    refine EvC.loopS (σ := Nat) (fun i => ⟨[(0, .rf 0 0), (3, .sc (.int .i64 t)), (4, .sc (.int .i64 n)), (6, .ia m.cells), (10, .sl true [] .unk), (11, .sl true [] .unk), (19, .sl r1.1 (r1.2.map edgeC) .unk), (20, .sc (.int .i64 r1.2.length)), (21, .sc (.int .i64 i))], [], memF W n now, 5⟩) (fun i => r1.2.length - i)
      (fun i => i ≤ r1.2.length ∧ o = srchW W n (r1.2.drop i) (r2.2.drop i) i) [0, 3, 4, 6, 10, 11, 19, 20, 21] 5 ?_ ?_
    · exact ⟨[(0, 0), (1, 1), (2, 2), (3, 3), (4, 4)], 0, rfl, (by (simp only [go_sem, Mach.cells, memF]) <;> rfl), Nat.zero_le _, by simpa using ho⟩
    rintro i ⟨h1, h2⟩
    unfold memF
    apply EvC.seq
    apply EvC.rg
    · (simp only [go_sem]) <;> rfl
    · simp
    apply EvC.seq
    refine EvC.cond (by (simp only [go_sem]) <;> rfl) (fun hc => ?_) (fun hc => ?_)
    rotate_left
    · refine EvC.gcTo ⟨[(4, .sc (.int .i64 n)), (10, .sl true [] .unk), (11, .sl true [] .unk)], [], memF W n now, 5⟩ [4, 10, 11] [(0, 0), (1, 1), (2, 2), (3, 3), (4, 4)] rfl (by (simp only [go_sem, memF]) <;> rfl) ?_
      refine EvC.exit ?_  -- 0
      have hi : ¬ i < r1.2.length := by simpa using hc
      have : o = [] := by rw [h2, List.drop_of_length_le (by omega)]; rfl
      subst this
      exact ⟨rfl, _, rfl⟩
    have hi : i < r1.2.length := by simpa using hc
    have hi2 : i < r2.2.length := by omega
    have he : r1.2[i]? = some r1.2[i] := List.getElem?_eq_getElem hi
    have hf : r2.2[i]? = some r2.2[i] := List.getElem?_eq_getElem hi2
    have hd1 : r1.2.drop i = r1.2[i] :: r1.2.drop (i + 1) := List.drop_eq_getElem_cons hi
    have hd2 : r2.2.drop i = r2.2[i] :: r2.2.drop (i + 1) := List.drop_eq_getElem_cons hi2
    have fx := fits_cases (q4 _ (List.getElem_mem hi))
    have fy := fits_cases (p4 _ (List.getElem_mem hi2))
    generalize r1.2[i] = x at he hd1 fx
    generalize r2.2[i] = y at hf hd2 fy
    rw [hd1, hd2, srchW] at h2
    have hx64 : x.1.toNat < 64 := by omega
    have hy64 : y.1.toNat < 64 := by omega
    have htab := wTab_get W hx64 hy64
    have hlW := hW x.1.toNat y.1.toNat
    refine EvC.skip ?_
    apply EvC.seq
    refine EvC.block ?_  -- 1
    apply EvC.seq
    apply EvC.rg
    · (simp only [go_sem, he, edgeC, Int.toNat_natCast]) <;> rfl
    · simp
    apply EvC.seq
    apply EvC.rg
    · (simp only [go_sem, Mach.cells, p1, rowC, hf, edgeC, Int.toNat_natCast]) <;> rfl
    · simp
    refine EvC.block ?_  -- 2
    apply EvC.seq
    apply EvC.rg
    · (simp only [go_sem]) <;> rfl
    · simp
    refine EvC.cond (by (simp only [go_sem]) <;> rfl) (fun hc => ?_) (fun hc => ?_)
    · have hc : x.2 ≠ y.2 := by simpa using hc
      rw [if_pos hc] at h2
      apply EvC.seq
      apply EvC.rg
      · (simp only [go_sem]) <;> rfl
      · simp
      refine EvC.gcTo ⟨[(4, .sc (.int .i64 n)), (10, .sl true [] .unk), (11, .sl false ([(i : Int)].map intC) .full)], [], memF W n now, 5⟩ [4, 10, 11] [(0, 0), (1, 1), (2, 2), (3, 3), (4, 4)] rfl (by (simp only [go_sem, memF, intC]) <;> rfl) ?_
      refine EvC.exit ?_  -- 0
      subst h2
      exact ⟨rfl, _, rfl⟩
    have hc1 : x.2 = y.2 := by simpa using hc
    rw [if_neg (by simpa using hc1)] at h2
    have hI : inI64 ((n : Int) - 1) = true := inI64_of (by omega) (by omega)
    have hxx : x.1 ≠ -1 → 0 ≤ x.1 ∧ 0 ≤ y.1 := fun h => by omega
    apply EvC.seq
    apply EvC.drd mixed
    · (simp only [go_sem, htab, Nat.mul_one, Int.toNat_natCast, List.length_map]) <;> rfl
    · by_cases hx : x.1 = -1; (· simp [hx]); (· have := hxx hx; simp [hx, hI, wTab_len, this.1, this.2]; omega)
    · kernel_rfl
    refine EvC.cond (by (simp only [go_sem]) <;> rfl) (fun hc => ?_) (fun hc => ?_)
    · have hcc : 1 < n ∧ x.1 ≠ -1 ∧ (W x.1.toNat y.1.toNat).length + 1 = n := by
        by_cases k1 : 1 < (n : Int) <;> by_cases k2 : x.1 = -1 <;> simp [k1, k2] at hc
        exact ⟨by omega, k2, by omega⟩
      have hxy := hxx hcc.2.1
      rw [if_pos hcc] at h2
      apply EvC.seq
      apply EvC.drw mixed
      · apply Tr.run
        · (simp only [go_sem, htab, Nat.mul_one, Int.toNat_natCast]) <;> rfl
        · simp [wTab_len, hxy.1, hxy.2]; omega
        apply Tr.cons
        · exact .call rfl rfl (by (simp only [go_sem]) <;> rfl) (by (simp only [go_sem]) <;> rfl) (by (simp only [go_sem]) <;> rfl) (by (simp only [go_sem]) <;> rfl) (by (simp only [go_sem]) <;> rfl) (concat2_is i (W x.1.toNat y.1.toNat).isEmpty (W x.1.toNat y.1.toNat) (cpW (W x.1.toNat y.1.toNat)) (by omega))
        apply Tr.done
        · (simp only [go_sem]) <;> rfl
        · simp
      · kernel_rfl
      refine EvC.gcTo ⟨[(4, .sc (.int .i64 n)), (10, .sl true [] .unk), (11, .sl false (((i : Int) :: W x.1.toNat y.1.toNat).map intC) .unk)], [], memF W n now, 5⟩ [4, 10, 11] [(0, 0), (1, 1), (2, 2), (3, 3), (4, 4)] rfl (by (simp only [go_sem, memF]) <;> rfl) ?_
      refine EvC.exit ?_  -- 0
      subst h2
      exact ⟨rfl, _, rfl⟩
    have hcc : ¬ (1 < n ∧ x.1 ≠ -1 ∧ (W x.1.toNat y.1.toNat).length + 1 = n) := by
      rintro ⟨k1, k2, k3⟩
      have k1' : 1 < (n : Int) := by omega
      simp [k1', k2] at hc
      omega
    rw [if_neg hcc] at h2
    refine EvC.skip ?_
    apply EvC.rg  -- R10
    · (simp only [go_sem]) <;> rfl
    · exact inI64_of (by omega) (by omega)
    exact ⟨[(0, 0), (1, 1), (2, 2), (3, 3), (4, 4)], i + 1, rfl, (by (simp only [go_sem, memF, Mach.cells]) <;> rfl), ⟨by omega, h2⟩, by omega⟩
  · rintro _ _ ⟨rfl, cp, rfl⟩
    rw [← ho] at hstep
    refine EvC.seq ?_
    unfold memF
    apply EvC.seq
    apply EvC.rg
    · (simp only [go_sem]) <;> rfl
    · simp
    refine EvC.cond (by (simp only [go_sem]) <;> rfl) (fun hc => ?_) (fun hc => ?_)
    · have hc : o.length ≠ n := by
        have : (o.length : Int) ≠ n := by simpa using hc
        omega
      apply EvC.seq
      apply EvC.rg
      · (simp only [go_sem]) <;> rfl
      · simp
      refine EvC.frz 9 (by (simp only [go_sem]) <;> rfl) ?_
      refine EvC.gcTo ⟨[(10, .sl true [] .unk)], [], memF W n now, 5⟩ [10] [(0, 0), (1, 1), (2, 2), (3, 3), (4, 4)] rfl (by (simp only [go_sem, memF]) <;> rfl) ?_
      refine EvC.ret ⟨rfl, .unk, ?_, ?_⟩
      · intro h; exact absurd (by rw [hstep, if_neg hc]) h
      · rw [hstep, if_neg hc]; rfl
    have hc : o.length = n := by
      have : (o.length : Int) = n := by simpa using hc
      omega
    have hne : o.isEmpty = false := by cases o with
      | nil => simp at hc; omega
      | cons a l => rfl
    refine EvC.skip ?_
    apply EvC.seq
    apply EvC.tr
    · apply Tr.run
      · (simp only [go_sem]) <;> rfl
      · simp
      apply Tr.cons
      · exact .call rfl rfl (by (simp only [go_sem]) <;> rfl) (by (simp only [go_sem]) <;> rfl) (by (simp only [go_sem]) <;> rfl) (by (simp only [go_sem]) <;> rfl) (by (simp only [go_sem]) <;> rfl) (clip31_is o.isEmpty (o.map intC) cp (intC_len o))
      apply Tr.done
      · (simp only [go_sem]) <;> rfl
      · simp
    refine EvC.gcTo ⟨[(10, .sl o.isEmpty (o.map intC) .full)], [], memF W n now, 5⟩ [10] [(0, 0), (1, 1), (2, 2), (3, 3), (4, 4)] rfl (by (simp only [go_sem, memF]) <;> rfl) ?_
    refine EvC.ret ⟨rfl, .full, fun _ => rfl, ?_⟩
    rw [hstep, if_pos hc]
    rfl

def memP (W : WT) (n : Nat) (c : List AV) : Mem := [(0, .cells (wTab W)), (1, .cells [.rf 0 0]), (2, .cells [.sc (.int .i64 n)]), (3, .cells c)]
def frPut : Fr := ⟨4, 4, [], 22⟩
theorem put_body (W : WT) (n s t : Nat) (w : List Int) (hs : s < 64) (ht : t < 64) (hw : w ≠ []) (cc : List AV) (h0 : Nat) :
    ∀ c, Go.Proofs.Try.f52.body = some c → EvC prog frPut none ⟨h0, none, false⟩ c ⟨vars0 0 [.rf 0 0, .sc (.int .i64 s), .sc (.int .i64 t), .sl false (w.map intC) .full], [], memP W n cc, 4⟩
      (fun e st' => e = .normal ∧ st'.mem = memP (updW (updW W s t w) t s w) n cc ∧ st'.nx = 20) := by
  intro c hc
  cases hc
  have hwA : AV.sl false (w.map intC) .full = wA w := by
    have hwe : w.isEmpty = false := by cases w <;> simp at hw ⊢
    simp [wA, cpW, hw, hwe]
  have hs1 := wTab_set W hs ht w _ hwA
  have hs2 := wTab_set (updW W s t w) ht hs w _ hwA
  unfold memP frPut
  apply EvC.drd mixed
  · (simp only [go_sem, Nat.mul_one, Int.toNat_natCast, hs1, hs2]) <;> rfl
  · simp [wTab_len]; omega
  · kernel_rfl
  exact ⟨rfl, rfl, rfl⟩
end Go.Avl
namespace Go.Avl
open Go Go.Proofs.Try
set_option maxRecDepth 10000
set_option linter.unusedSimpArgs false

/-- What a round finds. -/
def nowOf (m : Mach) (W : WT) (n : Nat) (p : Nat × Nat) : Option ((Nat × Nat) × List Int) :=
  if W p.1 p.2 = [] ∧ stepW m W p.1 p.2 n ≠ [] then some (p, stepW m W p.1 p.2 n) else none
def nowL (m : Mach) (W : WT) (n : Nat) (l : List (Nat × Nat)) : NowT := l.filterMap (nowOf m W n)
def putOne (W : WT) (p : (Nat × Nat) × List Int) : WT := updW (updW W p.1.1 p.1.2 p.2) p.1.2 p.1.1 p.2
def putAll (W : WT) (l : NowT) : WT := l.foldl putOne W
def roundW (m : Mach) (W : WT) (n : Nat) : WT := putAll W (nowL m W n (pairsN m.rows.length))
def tabAt (m : Mach) : Nat → WT
  | 0 => fun _ _ => []
  | k + 1 => roundW m (tabAt m k) (k + 1)
theorem mem_nowL {m : Mach} {W : WT} {n : Nat} {p : (Nat × Nat) × List Int} (h : p ∈ nowL m W n (pairsN m.rows.length)) : p.1.1 < p.1.2 ∧ p.1.2 < m.rows.length ∧ W p.1.1 p.1.2 = [] ∧ p.2 = stepW m W p.1.1 p.1.2 n ∧ p.2 ≠ [] := by
  obtain ⟨q, h1, h2⟩ := List.mem_filterMap.1 h
  unfold nowOf at h2
  split at h2
  · rename_i h3
    cases h2
    have := mem_pairsN h1
    exact ⟨this.1, this.2, h3.1, rfl, h3.2⟩
  · cases h2
theorem stepW_len (m : Mach) (W : WT) (s t n : Nat) : stepW m W s t n = [] ∨ (stepW m W s t n).length = n := by
  unfold stepW
  split
  · exact .inr ‹_›
  · exact .inl rfl
theorem putAll_or : ∀ (l : NowT) (W : WT) (a b : Nat), putAll W l a b = W a b ∨ ∃ p ∈ l, putAll W l a b = p.2
  | [], W, a, b => .inl rfl
  | p :: l, W, a, b => by
    rcases putAll_or l (putOne W p) a b with h | ⟨q, h1, h2⟩
    · show putAll (putOne W p) l a b = _ ∨ _
      by_cases h3 : putOne W p a b = W a b
      · exact .inl (h.trans h3)
      · refine .inr ⟨p, List.mem_cons_self, ?_⟩
        show putAll (putOne W p) l a b = _
        rw [h]
        unfold putOne updW at h3 ⊢
        by_cases e1 : a = p.1.2 ∧ b = p.1.1
        · rw [if_pos e1]
        · rw [if_neg e1] at h3 ⊢
          by_cases e2 : a = p.1.1 ∧ b = p.1.2
          · rw [if_pos e2]
          · rw [if_neg e2] at h3; exact absurd rfl h3
    · exact .inr ⟨q, List.mem_cons_of_mem _ h1, h2⟩
theorem tabAt_len (m : Mach) : ∀ (k a b : Nat), (tabAt m k a b).length ≤ k
  | 0, _, _ => Nat.le_refl _
  | k + 1, a, b => by
    rcases putAll_or (nowL m (tabAt m k) (k + 1) (pairsN m.rows.length)) (tabAt m k) a b with h | ⟨p, h1, h2⟩
    · show (putAll _ _ a b).length ≤ _
      rw [h]; exact Nat.le_succ_of_le (tabAt_len m k a b)
    · show (putAll _ _ a b).length ≤ _
      rw [h2]
      obtain ⟨_, _, _, h3, _⟩ := mem_nowL h1
      rcases stepW_len m (tabAt m k) p.1.1 p.1.2 (k + 1) with h | h
      · rw [h3, h]; simp
      · rw [h3, h]; omega

theorem inP_len (s : Nat) : ∀ (k t : Nat), (inP s k t).length = k
  | 0, _ => rfl
  | k + 1, t => by simp [inP, inP_len s k]
theorem outP_len (n : Nat) : ∀ (k s : Nat), (outP n k s).length ≤ k * n
  | 0, _ => by simp [outP]
  | k + 1, s => by
    have := outP_len n k (s + 1)
    simp only [outP, List.length_append, inP_len, Nat.add_mul]
    omega
theorem pairsN_len (n : Nat) : (pairsN n).length ≤ n * n := outP_len n n 0
def bodyQ (W : WT) (n : Nat) (now : NowT) (w : List Int) (e : Exit) (st' : St) : Prop := e = .ret ∧ ∃ cp, (w ≠ [] → cp = .full) ∧ st' = ⟨[(10, .sl w.isEmpty (w.map intC) cp)], [], memF W n now, 5⟩
theorem pair_take {α : Type} {l : List α} {k : Nat} (h : k < l.length) : l.take (k + 1) = l.take k ++ [l[k]] := by
  rw [List.take_add_one, List.getElem?_eq_getElem h]; rfl

theorem separated_is {m : Mach} (hv : Valid m) : PureIs prog 33 [.ag m.cells] (.ia (wTab (tabAt m (max m.rows.length 2 - 1)))) := by
  have hrw := hv.rows
  refine PureIs.of (nv := 9) (hid := [10, 18, 22, 23, 24, 32, 33, 34, 35, 36, 37, 40, 48, 49, 50, 51, 54, 56, 58, 60, 63]) func33 rfl (by kernel_rfl) (by simp [ntmps33]) fun _ => ?_
  rw [ntmps33, results33]
  refine EvC.seq (EvC.rg (by (simp only [go_sem, Mach.cells]) <;> rfl) (by simp) ?_)
  refine EvC.frzB 0 (by (simp only [go_sem]) <;> rfl) ?_
  refine EvC.seq (EvC.rg (by (simp only [go_sem]) <;> rfl) (by simp [wTab_all]) ?_)
  refine EvC.seq ?_
  refine EvC.seq (EvC.rg (by (simp only [go_sem]) <;> rfl) (by simp) ?_)
  refine EvC.block ?_  -- 0
  refine EvC.loopS (σ := Nat) (fun k => ⟨[(1, .ia m.cells), (3, .rf 1 0), (4, .rf 2 0)], [], [(0, .cells (wTab (tabAt m k))), (1, .cells [.rf 0 0]), (2, .cells [.sc (.int .i64 ((k : Int) + 1))])], 3⟩) (fun k => m.rows.length + 2 - k)
    (fun k => k + 1 ≤ max m.rows.length 2) [1, 3, 4] 3 ?_ ?_
  · exact ⟨[(3, 0), (4, 1), (6, 2)], 0, rfl, (by (simp only [go_sem, Mach.cells, tabAt, Int.natCast_zero, Int.zero_add]) <;> rfl), by omega⟩
  intro k hk
  obtain ⟨W, hWk⟩ : ∃ W, W = tabAt m k := ⟨_, rfl⟩
  obtain ⟨n, hn⟩ : ∃ n, n = k + 1 := ⟨_, rfl⟩
  have hnI : (k : Int) + 1 = (n : Int) := by omega
  have hWl : ∀ a b, (W a b).length ≤ k := fun a b => by rw [hWk]; exact tabAt_len m k a b
  rw [← hWk, hnI]
  refine EvC.seq ?_
  refine EvC.seq (EvC.rg (by (simp only [go_sem, Mach.cells]) <;> rfl) (by simp) ?_)
  refine EvC.cond (by (simp only [go_sem]) <;> rfl) (fun hc => ?_) (fun hc => ?_)
  rotate_left
  · refine EvC.exit ?_  -- 0
    have hn2 : n = max m.rows.length 2 := by
      by_cases h2 : (m.rows.length : Int) ≤ 2 <;> simp [h2] at hc <;> omega
    refine EvC.seq (EvC.rg (by (simp only [go_sem]) <;> rfl) (by simp) ?_)
    refine EvC.frzB 0 (by (simp only [go_sem]) <;> rfl) ?_
    refine EvC.ret ⟨.inl rfl, _, (by (simp only [go_sem]) <;> rfl), ?_, rfl⟩
    simp only [go_sem]
    rw [hWk, show max m.rows.length 2 - 1 = k by omega]
  have hn2 : n < max m.rows.length 2 := by
    by_cases h2 : (m.rows.length : Int) ≤ 2 <;> simp [h2] at hc <;> omega
  refine EvC.skip ?_
  refine EvC.seq ?_
  refine EvC.block ?_  -- 1
  refine EvC.seq (EvC.rg (by (simp only [go_sem]) <;> rfl) (by simp) ?_)
  refine EvC.seq ?_
  apply EvC.seq
  apply EvC.tr
  · apply Tr.run
    · (simp only [go_sem, Mach.cells]) <;> rfl
    · simp
    apply Tr.cons
    · exact .call rfl rfl (by (simp only [go_sem]) <;> rfl) (by (simp only [go_sem]) <;> rfl) (by (simp only [go_sem]) <;> rfl) (by (simp only [go_sem]) <;> rfl) (by (simp only [go_sem]) <;> rfl) (pairs_is m)
    apply Tr.done
    · (simp only [go_sem]) <;> rfl
    · simp
  refine EvC.block ?_  -- 2
  refine EvC.ownC 9 0 4 (by (simp only [go_sem]) <;> rfl) ?_
  refine EvC.gcTo ⟨[(1, .ia m.cells), (3, .rf 1 0), (4, .rf 2 0), (5, .rf 3 0), (22, .fn 62 [.ia m.cells])], [], memF W n [], 5⟩ [1, 3, 4, 5, 22] [(0, 0), (1, 1), (2, 2), (9, 3), (12, 4)] (by rfl) (by (simp only [go_sem, memF, Mach.cells]) <;> rfl) ?_
  have hlp : (pairsN m.rows.length).length = (pairsN m.rows.length).length := rfl
  refine EvC.range (σ := NowT) (gf := 62) (caps := [.ia m.cells]) (xs := (pairsN m.rows.length).map pairC) rfl (fun _ => rfl) (by (simp only [go_sem]) <;> rfl) rfl (pairs1_seq m (by omega)) ?_ (by simp) (Nat.zero_le _)
    (fun _ now => memF W n now) (fun j now => now = nowL m W n ((pairsN m.rows.length).take j)) ⟨[], rfl, rfl⟩ ?_ ?_
  · intro x hx
    obtain ⟨z, _, rfl⟩ := List.mem_map.1 hx
    rfl
  · rintro j now lp hj hnow
    have hj' : j < (pairsN m.rows.length).length := by simpa using hj
    have hz : ((pairsN m.rows.length).map pairC)[j] = pairC (pairsN m.rows.length)[j] := by simp
    have hp := mem_pairsN (List.getElem_mem hj')
    have htk := pair_take hj'
    rw [hz]
    generalize (pairsN m.rows.length)[j] = p at hp htk
    obtain ⟨s, t⟩ := p
    simp only at hp
    have hnx : nowL m W n ((pairsN m.rows.length).take (j + 1)) = now ++ nowL m W n [(s, t)] := by rw [htk, nowL, List.filterMap_append, hnow]; rfl
    have hnl : now.length < 10000 := by
      have h1 : now.length ≤ ((pairsN m.rows.length).take j).length := by rw [hnow]; exact List.length_filterMap_le _ _
      have h2 : (pairsN m.rows.length).length < 10000 := by
        have := pairsN_len m.rows.length
        have : m.rows.length * m.rows.length ≤ 64 * 64 := Nat.mul_le_mul hrw.2 hrw.2
        omega
      simp at h1; omega
    have htab := wTab_get W (show s < 64 by omega) (show t < 64 by omega)
    unfold memF
    refine EvC.seq (EvC.rg (by (simp only [go_sem, pairC]) <;> rfl) (by simp) ?_)  -- R7
    refine EvC.rg (by (simp only [go_sem]) <;> rfl) (by simp) ⟨rfl, ?_⟩  -- R8
    refine EvC.block ?_
    refine EvC.seq ?_
    refine EvC.seq (EvC.rg (by (simp only [go_sem, htab, Nat.mul_one, Int.toNat_natCast]) <;> rfl) (by simp [wTab_len]; omega) ?_)
    refine EvC.cond (by (simp only [go_sem]) <;> rfl) (fun hc => ?_) (fun hc => ?_)
    · have hc : W s t ≠ [] := by simpa using hc
      refine EvC.exit ?_
      refine ⟨[(0, 0), (1, 1), (2, 2), (3, 3), (4, 4)], now, rfl, by (simp only [go_sem, memF]) <;> rfl, ?_⟩
      rw [hnx]; simp [nowL, nowOf, hc]
    have hWst : W s t = [] := by simpa using hc
    refine EvC.skip ?_
    apply EvC.seq  -- R10
    apply EvC.rs
    · (simp only [go_sem]) <;> rfl
    · simp [Mach.cells]
    refine XR.gcTo ⟨[(1, .ia m.cells), (3, .rf 1 0), (4, .rf 2 0), (5, .rf 3 0), (6, .sc (.int .i64 s)), (7, .sc (.int .i64 t)), (33, .rf 0 0), (34, .ag m.cells), (35, .sc (.int .i64 s)), (36, .sc (.int .i64 t)), (37, .sc (.int .i64 n))], [], memF W n now, 5⟩ [1, 3, 4, 5, 6, 7, 33, 34, 35, 36, 37] [(0, 0), (1, 1), (2, 2), (3, 3), (4, 4)] (by rfl) (by (simp only [go_sem, memF, Mach.cells]) <;> rfl) ?_
    refine XR.callB 5 [6, 10, 11, 12, 13, 14, 19, 20, 21, 22, 34, 42, 82] rfl rfl (by (simp only [go_sem]) <;> rfl) (by (simp only [go_sem]) <;> rfl) (by (simp only [go_sem]) <;> rfl) func51 rfl (by kernel_rfl) (by simp [ntmps51]) fun h0 => ?_
    rw [ntmps51, results51]
    refine EvC.mono (step_body hv W (fun a b => by have := hWl a b; omega) s t n (by omega) hp.2 (by omega) now h0 _ rfl) ?_
    rintro _ _ ⟨rfl, cp, hcp, rfl⟩
    refine ⟨.inl rfl, _, (by (simp only [go_sem]) <;> rfl), ?_⟩
    obtain ⟨w, hw⟩ : ∃ w, w = stepW m W s t n := ⟨_, rfl⟩
    rw [← hw] at hcp ⊢
    unfold memF
    refine XR.done (by (simp only [go_sem]) <;> rfl) (by simp) ?_
    apply EvC.seq
    apply EvC.rg
    · (simp only [go_sem]) <;> rfl
    · simp
    refine EvC.cond (by (simp only [go_sem]) <;> rfl) (fun hc => ?_) (fun hc => ?_)
    · have hne : w ≠ [] := by simpa using hc
      have hwe : w.isEmpty = false := by cases w <;> simp at hne ⊢
      obtain rfl := hcp hne
      apply EvC.rg
      · (simp only [go_sem, hwe, List.length_map]) <;> rfl
      · simp [room_eq, AV.norefs, AV.noref]; omega
      refine ⟨[(0, 0), (1, 1), (2, 2), (3, 3), (4, 4)], now ++ [((s, t), w)], rfl, by (simp only [go_sem, memF, nowC, hwe, List.length_map]) <;> rfl, ?_⟩
      rw [hnx]
      simp [nowL, nowOf, hWst, ← hw, hne]
    have hne : w = [] := by simpa using hc
    refine EvC.skip ?_
    refine ⟨[(0, 0), (1, 1), (2, 2), (3, 3), (4, 4)], now, rfl, by (simp only [go_sem, memF]) <;> rfl, ?_⟩
    rw [hnx]
    simp [nowL, nowOf, ← hw, hne]
  · rintro now hnow
    rw [List.length_map, List.take_length] at hnow
    have hnl : now.length < 10000 := by
      have h1 : now.length ≤ (pairsN m.rows.length).length := by rw [hnow]; exact List.length_filterMap_le _ _
      have := pairsN_len m.rows.length
      have : m.rows.length * m.rows.length ≤ 64 * 64 := Nat.mul_le_mul hrw.2 hrw.2
      omega
    unfold memF
    refine EvC.seq (EvC.rg (by (simp only [go_sem]) <;> rfl) (by simp) ?_)
    refine EvC.frz 4 (by (simp only [go_sem, List.length_map]) <;> rfl) ?_
    refine EvC.block ?_  -- 4
    refine EvC.loopS (σ := Nat) (fun i => ⟨[(1, .ia m.cells), (3, .rf 1 0), (4, .rf 2 0), (48, .sl now.isEmpty (now.map nowC) .unk), (49, .sc (.int .i64 now.length)), (50, .sc (.int .i64 i))], [], [(0, .cells (wTab (putAll W (now.take i)))), (1, .cells [.rf 0 0]), (2, .cells [.sc (.int .i64 n)])], 3⟩) (fun i => now.length - i)
      (fun i => i ≤ now.length) [1, 3, 4, 48, 49, 50] 3 ?_ ?_
    · exact ⟨[(0, 0), (1, 1), (2, 2)], 0, rfl, (by (simp only [go_sem, putAll, List.foldl_nil]) <;> rfl), Nat.zero_le _⟩
    intro i hi
    obtain ⟨V, hV⟩ : ∃ V, V = putAll W (now.take i) := ⟨_, rfl⟩
    rw [← hV]
    refine EvC.seq (EvC.rg (by (simp only [go_sem]) <;> rfl) (by simp) ?_)
    refine EvC.seq ?_
    refine EvC.cond (by (simp only [go_sem]) <;> rfl) (fun hc => ?_) (fun hc => ?_)
    rotate_left
    · refine EvC.exit ?_  -- 4
      obtain rfl : i = now.length := by have : ¬ i < now.length := by simpa using hc
                                        omega
      rw [List.take_length] at hV
      refine EvC.seq ?_
      refine EvC.seq (EvC.rg (by (simp only [go_sem]) <;> rfl) (by simp) ?_)
      refine EvC.rg (by (simp only [go_sem]) <;> rfl) (by simp) ?_
      apply EvC.rg
      · (simp only [go_sem]) <;> rfl
      · exact inI64_of (by omega) (by omega)
      have hV2 : tabAt m (k + 1) = V := by rw [hV, hnow, hWk, hn]; rfl
      have hn1 : (n : Int) = (k : Int) + ((1 : Nat) : Int) := by omega
      exact ⟨[(0, 0), (1, 1), (5, 2)], k + 1, rfl, (by (simp only [go_sem, hV2, hn1]) <;> rfl), by omega, by omega⟩
    have hi : i < now.length := by simpa using hc
    have he : now[i]? = some now[i] := List.getElem?_eq_getElem hi
    have hm : now[i].1.1 < now[i].1.2 ∧ now[i].1.2 < m.rows.length ∧ W now[i].1.1 now[i].1.2 = [] ∧ now[i].2 = stepW m W now[i].1.1 now[i].1.2 n ∧ now[i].2 ≠ [] := by
      have h := List.getElem_mem hi
      generalize now[i] = p at h
      rw [hnow] at h
      exact mem_nowL h
    have htk := pair_take hi
    generalize now[i] = p at he hm htk
    obtain ⟨⟨s, t⟩, w⟩ := p
    simp only at hm
    refine EvC.skip ?_
    refine EvC.seq ?_
    refine EvC.block ?_  -- 5
    refine EvC.seq (EvC.rg (by (simp only [go_sem, he, nowC, Int.toNat_natCast]) <;> rfl) (by simp) ?_)
    apply EvC.rs  -- R16
    · (simp only [go_sem]) <;> rfl
    · simp
    obtain ⟨cc, hcc⟩ : ∃ cc, cc = nowC ((s, t), w) := ⟨_, rfl⟩
    refine XR.gcTo ⟨[(1, .ia m.cells), (3, .rf 1 0), (4, .rf 2 0), (48, .sl now.isEmpty (now.map nowC) .unk), (49, .sc (.int .i64 now.length)), (50, .sc (.int .i64 i)), (54, .rf 0 0), (56, .sc (.int .i64 s)), (58, .sc (.int .i64 t)), (60, .sl false (w.map intC) .full)], [], memP V n cc, 4⟩ [1, 3, 4, 48, 49, 50, 54, 56, 58, 60] [(0, 0), (1, 1), (2, 2), (6, 3)] (by rfl) (by (simp only [go_sem, memP, hcc, nowC]) <;> rfl) ?_
    refine XR.callB 4 [] rfl rfl (by (simp only [go_sem]) <;> rfl) (by (simp only [go_sem]) <;> rfl) (by (simp only [go_sem]) <;> rfl) func52 rfl (by kernel_rfl) (by simp [ntmps52]) fun h0 => ?_
    rw [ntmps52, results52]
    refine EvC.mono (put_body V n s t w (by omega) (by omega) hm.2.2.2.2 cc h0 _ rfl) ?_
    rintro _ ⟨_, _, _, _⟩ ⟨rfl, rfl, rfl⟩
    refine ⟨.inr rfl, _, (by (simp only [go_sem]) <;> rfl), ?_⟩
    unfold memP
    refine XR.done (by (simp only [go_sem]) <;> rfl) (by simp) ?_
    apply EvC.rg
    · (simp only [go_sem]) <;> rfl
    · exact inI64_of (by omega) (by omega)
    refine ⟨[(0, 0), (1, 1), (2, 2)], i + 1, rfl, ?_, by omega, by omega⟩
    have hpt : putAll W (now.take (i + 1)) = updW (updW V s t w) t s w := by
      rw [htk, putAll, List.foldl_append, hV]; rfl
    (simp only [go_sem, hpt]) <;> rfl
end Go.Avl
namespace Go.Avl
open Go Go.Proofs.Try
set_option maxRecDepth 10000
set_option linter.unusedSimpArgs false

theorem wTab_get2 (W : WT) {s t : Nat} (hs : s < 64) (ht : t < 64) : List.take 1 (List.drop t (List.drop (s * 64) (wTab W))) = [.sl (W s t).isEmpty ((W s t).map intC) (cpW (W s t))] := by
  rw [List.drop_drop]; exact wTab_get W hs ht
/-- The separating word of two states. -/
def sepW (m : Mach) (s t : Nat) : List Int := tabAt m (max m.rows.length 2 - 1) s t
theorem sepW_len (m : Mach) (hv : Valid m) (s t : Nat) : (sepW m s t).length < 100 := by
  have := tabAt_len m (max m.rows.length 2 - 1) s t
  have := hv.rows
  unfold sepW; omega
theorem isEmpty_nil {l : List Int} : l.isEmpty = true → l = [] := by cases l <;> simp
def separateA (m : Mach) (s t : Int) : AV :=
  if stateErr m [s, t] ≠ 0 then .tu [.sl true [] .unk, .sc (.bool false), .sc (.int .i64 (stateErr m [s, t]))]
  else .tu [.sl (sepW m s.toNat t.toNat).isEmpty ((sepW m s.toNat t.toNat).map intC) .full, .sc (.bool (decide (0 < ((sepW m s.toNat t.toNat).length : Int)))), .sc (.int .i64 0)]
theorem separateA_noref (m : Mach) (s t : Int) : (separateA m s t).noref = true := by unfold separateA; repeat (first | rfl | split)
theorem separate_is (m : Mach) (hr : ∀ r ∈ m.rows, r.2.length < 1000000) (s t : Int) : PureIs prog 11 [.ag m.cells, .sc (.int .i64 s), .sc (.int .i64 t)] (separateA m s t) := by
  refine PureIs.of (nv := 4) (hid := [6, 7, 8, 9, 10, 17]) func11 rfl (by kernel_rfl) (by simp [ntmps11]) fun _ => ?_
  rw [ntmps11, results11]
  refine EvC.seq (EvC.rg (by (simp only [go_sem, Mach.cells]) <;> rfl) (by simp) ?_)
  refine EvC.frzB 0 (by (simp only [go_sem]) <;> rfl) ?_
  refine EvC.seq ?_
  apply EvC.seq
  apply EvC.tr
  · apply Tr.run
    · (simp only [go_sem, Mach.cells]) <;> rfl
    · simp
    apply Tr.cons
    · exact .call rfl rfl (by (simp only [go_sem]) <;> rfl) (by (simp only [go_sem]) <;> rfl) (by (simp only [go_sem]) <;> rfl) (by (simp only [go_sem]) <;> rfl) (by (simp only [go_sem]) <;> rfl) (by simpa [intC, Mach.cells] using state_is m hr false [s, t] .full (by simp))
    apply Tr.done
    · (simp only [go_sem]) <;> rfl
    · simp
  refine EvC.seq (EvC.rg (by (simp only [go_sem]) <;> rfl) (by simp) ?_)
  refine EvC.cond (by (simp only [go_sem]) <;> rfl) (fun hc => ?_) (fun hc => ?_)
  · have hc : stateErr m [s, t] ≠ 0 := by simpa using hc
    refine EvC.seq (EvC.rg (by (simp only [go_sem]) <;> rfl) (by simp) ?_)
    refine EvC.ret ⟨.inl rfl, _, (by (simp only [go_sem]) <;> rfl), ?_, separateA_noref _ _ _⟩
    simp only [go_sem]
    rw [separateA, if_pos hc]
  have h1 : ¬ stateErr m [s, t] ≠ 0 := by simpa using hc
  clear hc
  obtain ⟨hv, hst⟩ := stateErr_zero (show stateErr m [s, t] = 0 by simpa using h1)
  have hs := hst s (by simp)
  have ht := hst t (by simp)
  have hrw := hv.rows
  have htab := wTab_get2 (tabAt m (max m.rows.length 2 - 1)) (show s.toNat < 64 by omega) (show t.toNat < 64 by omega)
  obtain ⟨w, hw⟩ : ∃ w, w = sepW m s.toNat t.toNat := ⟨_, rfl⟩
  have hwl := sepW_len m hv s.toNat t.toNat
  rw [show tabAt m (max m.rows.length 2 - 1) s.toNat t.toNat = w from hw.symm] at htab
  rw [← hw] at hwl
  refine EvC.skip ?_
  apply EvC.seq
  apply EvC.tr
  · apply Tr.run
    · (simp only [go_sem, Mach.cells, htab, Nat.mul_one]) <;> rfl
    · simp [wTab_len, hs.1, ht.1]; try omega
    apply Tr.cons
    · exact .call rfl rfl (by (simp only [go_sem]) <;> rfl) (by (simp only [go_sem]) <;> rfl) (by (simp only [go_sem]) <;> rfl) (by (simp only [go_sem]) <;> rfl) (by (simp only [go_sem]) <;> rfl) (separated_is hv)
    apply Tr.run
    · (simp only [go_sem, Mach.cells, htab, Nat.mul_one]) <;> rfl
    · simp [wTab_len, hs.1, ht.1]; try omega
    apply Tr.cons
    · exact .call rfl rfl (by (simp only [go_sem]) <;> rfl) (by (simp only [go_sem]) <;> rfl) (by (simp only [go_sem]) <;> rfl) (by (simp only [go_sem]) <;> rfl) (by (simp only [go_sem]) <;> rfl) (clone_is w.isEmpty w (cpW w) isEmpty_nil (by omega))
    apply Tr.run
    · (simp only [go_sem, Mach.cells, htab, Nat.mul_one]) <;> rfl
    · simp [wTab_len, hs.1, ht.1]; try omega
    apply Tr.cons
    · exact .call rfl rfl (by (simp only [go_sem]) <;> rfl) (by (simp only [go_sem]) <;> rfl) (by (simp only [go_sem]) <;> rfl) (by (simp only [go_sem]) <;> rfl) (by (simp only [go_sem]) <;> rfl) (clip31_is w.isEmpty (w.map intC) .unk (intC_len w))
    apply Tr.done
    · (simp only [go_sem]) <;> rfl
    · simp
  refine EvC.seq (EvC.rg (by (simp only [go_sem]) <;> rfl) (by simp) ?_)
  refine EvC.ret ⟨.inl rfl, _, (by (simp only [go_sem]) <;> rfl), ?_, separateA_noref _ _ _⟩
  simp only [go_sem]
  rw [separateA, if_neg h1, ← hw]

abbrev TRow := (Nat × Nat) × List Int
def tblC (p : TRow) : List AV := [.sc (.int .i64 p.1.1), .sc (.int .i64 p.1.2), .sl p.2.isEmpty (p.2.map intC) .full, .sc (.bool (decide (0 < (p.2.length : Int))))]
@[go_sem] theorem norefs_tbl (l : List TRow) : (l.map tblC).all AV.norefs = true := by simp [List.all_eq_true, tblC, AV.norefs, AV.noref]
theorem tblC_len (l : List TRow) : ((l.map tblC).all fun y => decide (y.length = 4)) = true := by simp [List.all_eq_true, tblC]
def tblL (m : Mach) : List TRow := (pairsN m.rows.length).map fun p => (p, sepW m p.1 p.2)
def memT (W : WT) (rows : List TRow) : Mem := [(0, .cells [.ia (wTab W)]), (1, .cells [.tl 2 rows.length rows.isEmpty]), (2, .arr 4 (rows.map tblC) true)]
def tableA (m : Mach) : AV :=
  if checkM m ≠ 0 then .tu [.sl true [] .unk, .sc (.int .i64 (checkM m))] else .tu [.sl (tblL m).isEmpty ((tblL m).map tblC) .full, .sc (.int .i64 0)]
theorem tableA_noref (m : Mach) : (tableA m).noref = true := by unfold tableA; repeat (first | rfl | split)
theorem table_is (m : Mach) (hr : ∀ r ∈ m.rows, r.2.length < 1000000) : PureIs prog 20 [.ag m.cells] (tableA m) := by
  refine PureIs.of (nv := 10) (hid := [13, 18, 19, 20]) func20 rfl (by kernel_rfl) (by simp [ntmps20]) fun _ => ?_
  rw [ntmps20, results20]
  refine EvC.seq (EvC.rg (by (simp only [go_sem, Mach.cells]) <;> rfl) (by simp) ?_)
  refine EvC.frzB 0 (by (simp only [go_sem]) <;> rfl) ?_
  refine EvC.seq ?_
  apply EvC.seq
  apply EvC.tr
  · apply Tr.run
    · (simp only [go_sem, Mach.cells]) <;> rfl
    · simp
    apply Tr.cons
    · exact .call rfl rfl (by (simp only [go_sem]) <;> rfl) (by (simp only [go_sem]) <;> rfl) (by (simp only [go_sem]) <;> rfl) (by (simp only [go_sem]) <;> rfl) (by (simp only [go_sem]) <;> rfl) (check_is m hr)
    apply Tr.done
    · (simp only [go_sem]) <;> rfl
    · simp
  refine EvC.seq (EvC.rg (by (simp only [go_sem]) <;> rfl) (by simp) ?_)
  refine EvC.cond (by (simp only [go_sem]) <;> rfl) (fun hc => ?_) (fun hc => ?_)
  · have hc : checkM m ≠ 0 := by simpa using hc
    refine EvC.seq (EvC.rg (by (simp only [go_sem]) <;> rfl) (by simp) ?_)
    refine EvC.ret ⟨.inl rfl, _, (by (simp only [go_sem]) <;> rfl), ?_, tableA_noref _⟩
    simp only [go_sem]
    rw [tableA, if_pos hc]
  have h1 : ¬ checkM m ≠ 0 := by simpa using hc
  clear hc
  have hv : Valid m := .of (by simpa using h1)
  have hrw := hv.rows
  obtain ⟨W, hW⟩ : ∃ W, W = tabAt m (max m.rows.length 2 - 1) := ⟨_, rfl⟩
  have hsep := separated_is hv
  rw [← hW] at hsep
  refine EvC.skip ?_
  apply EvC.seq
  apply EvC.tr
  · apply Tr.run
    · (simp only [go_sem, Mach.cells]) <;> rfl
    · simp
    apply Tr.cons
    · exact .call rfl rfl (by (simp only [go_sem]) <;> rfl) (by (simp only [go_sem]) <;> rfl) (by (simp only [go_sem]) <;> rfl) (by (simp only [go_sem]) <;> rfl) (by (simp only [go_sem]) <;> rfl) (hsep)
    apply Tr.done
    · (simp only [go_sem]) <;> rfl
    · simp
  refine EvC.seq (EvC.rg (by (simp only [go_sem]) <;> rfl) (by simp) ?_)
  refine EvC.seq ?_
  apply EvC.seq
  apply EvC.tr
  · apply Tr.run
    · (simp only [go_sem, Mach.cells]) <;> rfl
    · simp
    apply Tr.cons
    · exact .call rfl rfl (by (simp only [go_sem]) <;> rfl) (by (simp only [go_sem]) <;> rfl) (by (simp only [go_sem]) <;> rfl) (by (simp only [go_sem]) <;> rfl) (by (simp only [go_sem]) <;> rfl) (pairs_is m)
    apply Tr.done
    · (simp only [go_sem]) <;> rfl
    · simp
  refine EvC.block ?_  -- 0
  refine EvC.ownC 12 0 4 (by (simp only [go_sem]) <;> rfl) ?_
  refine EvC.gcTo ⟨[(1, .ia m.cells), (5, .rf 0 0), (6, .rf 1 0), (18, .fn 62 [.ia m.cells])], [], memT W [], 3⟩ [1, 5, 6, 18] [(10, 0), (12, 1), (15, 2)] (by rfl) (by (simp only [go_sem, memT, Mach.cells]) <;> rfl) ?_
  have hplen : (pairsN m.rows.length).length < 10000 := by
    have := pairsN_len m.rows.length
    have : m.rows.length * m.rows.length ≤ 64 * 64 := Nat.mul_le_mul hrw.2 hrw.2
    omega
  refine EvC.range (σ := List TRow) (gf := 62) (caps := [.ia m.cells]) (xs := (pairsN m.rows.length).map pairC) rfl (fun _ => rfl) (by (simp only [go_sem]) <;> rfl) rfl (pairs1_seq m (by omega)) ?_ (by simp) (Nat.zero_le _)
    (fun _ rows => memT W rows) (fun j rows => rows = ((pairsN m.rows.length).take j).map fun p => (p, sepW m p.1 p.2)) ⟨[], rfl, rfl⟩ ?_ ?_
  · intro x hx
    obtain ⟨z, _, rfl⟩ := List.mem_map.1 hx
    rfl
  · rintro j rows lp hj hrows
    have hj' : j < (pairsN m.rows.length).length := by simpa using hj
    have hz : ((pairsN m.rows.length).map pairC)[j] = pairC (pairsN m.rows.length)[j] := by simp
    have hp := mem_pairsN (List.getElem_mem hj')
    have htk := pair_take hj'
    rw [hz]
    generalize (pairsN m.rows.length)[j] = p at hp htk
    obtain ⟨s, t⟩ := p
    simp only at hp
    have hrl : rows.length < 10000 := by rw [hrows]; simp; omega
    have htab := wTab_get2 W (show s < 64 by omega) (show t < 64 by omega)
    obtain ⟨w, hw⟩ : ∃ w, w = sepW m s t := ⟨_, rfl⟩
    have hwl := sepW_len m hv s t
    rw [show W s t = w by rw [hw, hW]; rfl] at htab
    rw [← hw] at hwl
    unfold memT
    refine EvC.seq (EvC.rg (by (simp only [go_sem, pairC]) <;> rfl) (by simp) ?_)  -- R7
    refine EvC.rg (by (simp only [go_sem]) <;> rfl) (by simp) ⟨rfl, ?_⟩  -- R8
    refine EvC.block ?_
    apply EvC.seq
    apply EvC.tr
    · apply Tr.run
      · (simp only [go_sem, htab, Nat.mul_one, Int.toNat_natCast]) <;> rfl
      · simp [wTab_len]; try omega
      apply Tr.cons
      · exact .call rfl rfl (by (simp only [go_sem]) <;> rfl) (by (simp only [go_sem]) <;> rfl) (by (simp only [go_sem]) <;> rfl) (by (simp only [go_sem]) <;> rfl) (by (simp only [go_sem]) <;> rfl) (clone_is w.isEmpty w (cpW w) isEmpty_nil (by omega))
      apply Tr.run
      · (simp only [go_sem, htab, Nat.mul_one, Int.toNat_natCast]) <;> rfl
      · simp [wTab_len]; try omega
      apply Tr.cons
      · exact .call rfl rfl (by (simp only [go_sem]) <;> rfl) (by (simp only [go_sem]) <;> rfl) (by (simp only [go_sem]) <;> rfl) (by (simp only [go_sem]) <;> rfl) (by (simp only [go_sem]) <;> rfl) (clip31_is w.isEmpty (w.map intC) .unk (intC_len w))
      apply Tr.done
      · (simp only [go_sem]) <;> rfl
      · simp
    apply EvC.rg
    · (simp only [go_sem, List.length_map]) <;> rfl
    · simp [room_eq, AV.norefs, AV.noref]; omega
    refine ⟨[(0, 0), (1, 1), (2, 2)], rows ++ [((s, t), w)], rfl, by (simp only [go_sem, memT, tblC, List.length_map]) <;> rfl, ?_⟩
    rw [htk, List.map_append, hrows, hw]; rfl
  · rintro rows hrows
    rw [List.length_map, List.take_length] at hrows
    have hrows : rows = tblL m := hrows
    subst hrows
    unfold memT
    refine EvC.frzD 2 (by (simp only [go_sem, List.length_map]) <;> rfl) ?_
    apply EvC.seq
    apply EvC.tr
    · apply Tr.run
      · (simp only [go_sem]) <;> rfl
      · simp
      apply Tr.cons
      · exact .call rfl rfl (by (simp only [go_sem]) <;> rfl) (by (simp only [go_sem]) <;> rfl) (by (simp only [go_sem]) <;> rfl) (by (simp only [go_sem]) <;> rfl) (by (simp only [go_sem]) <;> rfl) (clip43_is (tblL m).isEmpty ((tblL m).map tblC) .unk (tblC_len _))
      apply Tr.done
      · (simp only [go_sem]) <;> rfl
      · simp
    refine EvC.ret ⟨.inl rfl, _, (by (simp only [go_sem]) <;> rfl), ?_, tableA_noref _⟩
    simp only [go_sem]
    rw [tableA, if_neg h1]
def maxLen (l : List TRow) : Int := l.foldl (fun n p => max n (p.2.length : Int)) 0
def heightA (m : Mach) : AV := if checkM m ≠ 0 then .tu [.sc (.int .i64 0), .sc (.int .i64 (checkM m))] else .tu [.sc (.int .i64 (maxLen (tblL m))), .sc (.int .i64 0)]
theorem heightA_noref (m : Mach) : (heightA m).noref = true := by unfold heightA; repeat (first | rfl | split)
theorem height_is (m : Mach) (hr : ∀ r ∈ m.rows, r.2.length < 1000000) : PureIs prog 21 [.ag m.cells] (heightA m) := by
  refine PureIs.of (nv := 7) (hid := [8, 14, 15, 16, 17]) func21 rfl (by kernel_rfl) (by simp [ntmps21]) fun _ => ?_
  rw [ntmps21, results21]
  refine EvC.seq (EvC.rg (by (simp only [go_sem, Mach.cells]) <;> rfl) (by simp) ?_)
  refine EvC.frzB 0 (by (simp only [go_sem]) <;> rfl) ?_
  have ht := table_is m hr
  by_cases h1 : checkM m ≠ 0
  · rw [tableA, if_pos h1] at ht
    apply EvC.seq
    apply EvC.tr
    · apply Tr.run
      · (simp only [go_sem, Mach.cells]) <;> rfl
      · simp
      apply Tr.cons
      · exact .call rfl rfl (by (simp only [go_sem]) <;> rfl) (by (simp only [go_sem]) <;> rfl) (by (simp only [go_sem]) <;> rfl) (by (simp only [go_sem]) <;> rfl) (by (simp only [go_sem]) <;> rfl) (ht)
      apply Tr.done
      · (simp only [go_sem]) <;> rfl
      · simp
    refine EvC.seq (EvC.rg (by (simp only [go_sem]) <;> rfl) (by simp) ?_)
    refine EvC.seq ?_
    refine EvC.seq (EvC.rg (by (simp only [go_sem]) <;> rfl) (by simp) ?_)
    refine EvC.block ?_  -- 0
    refine EvC.loopS (σ := Unit) (fun _ => ⟨[(5, .sc (.int .i64 (checkM m))), (6, .sc (.int .i64 0)), (14, .sl true [] .unk), (15, .sc (.int .i64 0)), (16, .sc (.int .i64 0))], [], [], 0⟩) (fun _ => 0) (fun _ => True) [5, 6, 14, 15, 16] 0 ?_ ?_
    · exact ⟨[], (), rfl, (by (simp only [go_sem]) <;> rfl), trivial⟩
    rintro _ _
    refine EvC.seq (EvC.rg (by (simp only [go_sem]) <;> rfl) (by simp) ?_)
    refine EvC.seq ?_
    refine EvC.cond_false (by (simp only [go_sem]) <;> rfl) ?_
    refine EvC.exit ?_
    refine EvC.seq (EvC.rg (by (simp only [go_sem]) <;> rfl) (by simp) ?_)
    refine EvC.ret ⟨.inl rfl, _, (by (simp only [go_sem]) <;> rfl), ?_, heightA_noref _⟩
    simp only [go_sem]
    rw [heightA, if_pos h1]
  rw [tableA, if_neg h1] at ht
  have hv : Valid m := .of (by simpa using h1)
  have hrw := hv.rows
  obtain ⟨T, hT⟩ : ∃ T, T = tblL m := ⟨_, rfl⟩
  have hTl : T.length < 10000 := by
    have := pairsN_len m.rows.length
    have : m.rows.length * m.rows.length ≤ 64 * 64 := Nat.mul_le_mul hrw.2 hrw.2
    rw [hT, tblL, List.length_map]; omega
  rw [← hT] at ht
  apply EvC.seq
  apply EvC.tr
  · apply Tr.run
    · (simp only [go_sem, Mach.cells]) <;> rfl
    · simp
    apply Tr.cons
    · exact .call rfl rfl (by (simp only [go_sem]) <;> rfl) (by (simp only [go_sem]) <;> rfl) (by (simp only [go_sem]) <;> rfl) (by (simp only [go_sem]) <;> rfl) (by (simp only [go_sem]) <;> rfl) (ht)
    apply Tr.done
    · (simp only [go_sem]) <;> rfl
    · simp
  refine EvC.seq (EvC.rg (by (simp only [go_sem]) <;> rfl) (by simp) ?_)
  refine EvC.seq ?_
  refine EvC.seq (EvC.rg (by (simp only [go_sem]) <;> rfl) (by simp) ?_)
  refine EvC.block ?_  -- 0
  refine EvC.loopS (σ := Nat) (fun i => ⟨[(5, .sc (.int .i64 0)), (6, .sc (.int .i64 (maxLen (T.take i)))), (14, .sl T.isEmpty (T.map tblC) .full), (15, .sc (.int .i64 T.length)), (16, .sc (.int .i64 i))], [], [], 0⟩) (fun i => T.length - i) (fun i => i ≤ T.length) [5, 6, 14, 15, 16] 0 ?_ ?_
  · exact ⟨[], 0, rfl, (by (simp only [go_sem, maxLen, List.foldl_nil]) <;> rfl), Nat.zero_le _⟩
  intro i hi
  refine EvC.seq (EvC.rg (by (simp only [go_sem]) <;> rfl) (by simp) ?_)
  refine EvC.seq ?_
  refine EvC.cond (by (simp only [go_sem]) <;> rfl) (fun hc => ?_) (fun hc => ?_)
  rotate_left
  · refine EvC.exit ?_  -- 0
    obtain rfl : i = T.length := by have : ¬ i < T.length := by simpa using hc
                                    omega
    rw [List.take_length]
    refine EvC.seq (EvC.rg (by (simp only [go_sem]) <;> rfl) (by simp) ?_)
    refine EvC.ret ⟨.inl rfl, _, (by (simp only [go_sem]) <;> rfl), ?_, heightA_noref _⟩
    simp only [go_sem]
    rw [heightA, if_neg h1, hT]
  have hi : i < T.length := by simpa using hc
  have he : T[i]? = some T[i] := List.getElem?_eq_getElem hi
  have htk := pair_take hi
  generalize T[i] = p at he htk
  have hmx : maxLen (T.take (i + 1)) = if maxLen (T.take i) ≤ (p.2.length : Int) then (p.2.length : Int) else maxLen (T.take i) := by
    rw [htk, maxLen, List.foldl_append]; show max _ _ = _; unfold maxLen; omega
  refine EvC.skip ?_
  refine EvC.seq ?_
  refine EvC.block ?_  -- 1
  refine EvC.seq (EvC.rg (by (simp only [go_sem, he, tblC, Int.toNat_natCast]) <;> rfl) (by simp) ?_)
  refine EvC.rg (by (simp only [go_sem]) <;> rfl) (by simp) ?_
  refine EvC.rg (by (simp only [go_sem]) <;> rfl) (by exact inI64_of (by omega) (by omega)) ?_
  exact ⟨[], i + 1, rfl, (by (simp only [go_sem, hmx]) <;> rfl), by omega, by omega⟩
end Go.Avl
namespace Go.Avl
open Go Go.Proofs.Try
set_option maxRecDepth 10000
set_option linter.unusedSimpArgs false

/-- The different elements of a list, in the order in which they first come. -/
def ddStep (acc : List Int) (x : Int) : List Int := if x ∈ acc then acc else acc ++ [x]
def dd (l : List Int) : List Int := l.foldl ddStep []
/-- Equal elements by the same number, the numbers in the order in which they first come. -/
def nmOf (D l : List Int) : List Int := l.map fun x => ((D.idxOf x : Nat) : Int)
def nm (l : List Int) : List Int := nmOf (dd l) l
theorem ddStep_pre (acc : List Int) (x : Int) : ∃ t, ddStep acc x = acc ++ t := by unfold ddStep; split; exact ⟨[], by simp⟩; exact ⟨_, rfl⟩
theorem foldl_dd_pre : ∀ (l acc : List Int), ∃ t, l.foldl ddStep acc = acc ++ t
  | [], acc => ⟨[], by simp⟩
  | x :: l, acc => by
    obtain ⟨t, ht⟩ := ddStep_pre acc x
    obtain ⟨u, hu⟩ := foldl_dd_pre l (ddStep acc x)
    exact ⟨t ++ u, by rw [List.foldl_cons, hu, ht, List.append_assoc]⟩
theorem dd_pre (l : List Int) (i : Nat) : ∃ t, dd l = dd (l.take i) ++ t := by
  obtain ⟨t, ht⟩ := foldl_dd_pre (l.drop i) (dd (l.take i))
  refine ⟨t, ?_⟩
  rw [← ht, dd, dd, ← List.foldl_append, List.take_append_drop]
theorem mem_foldl_dd : ∀ (l acc : List Int) (x : Int), x ∈ l.foldl ddStep acc ↔ x ∈ acc ∨ x ∈ l
  | [], acc, x => by simp
  | y :: l, acc, x => by
    rw [List.foldl_cons, mem_foldl_dd l]
    unfold ddStep
    split
    · rename_i h
      constructor
      · rintro (h1 | h1)
        · exact .inl h1
        · exact .inr (List.mem_cons_of_mem _ h1)
      · rintro (h1 | h1)
        · exact .inl h1
        · rcases List.mem_cons.1 h1 with rfl | h1
          · exact .inl h
          · exact .inr h1
    · simp [or_assoc]
theorem mem_dd {l : List Int} {x : Int} : x ∈ dd l ↔ x ∈ l := by unfold dd; rw [mem_foldl_dd]; simp
theorem dd_snoc {l : List Int} {i : Nat} {x : Int} (h : l[i]? = some x) : dd (l.take (i + 1)) = if x ∈ l.take i then dd (l.take i) else dd (l.take i) ++ [x] := by
  rw [List.take_add_one, h, dd, List.foldl_append]
  show ddStep (dd (l.take i)) x = _
  unfold ddStep
  by_cases hx : x ∈ l.take i
  · rw [if_pos (mem_dd.2 hx), if_pos hx]
  · rw [if_neg (fun h => hx (mem_dd.1 h)), if_neg hx]
theorem idx_old {l : List Int} {i : Nat} {x : Int} (hx : x ∈ l.take i) : (dd l).idxOf x = (dd (l.take i)).idxOf x := by
  obtain ⟨t, ht⟩ := dd_pre l i
  rw [ht, List.idxOf_append, if_pos (mem_dd.2 hx)]
theorem idx_new {l : List Int} {i : Nat} {x : Int} (h : l[i]? = some x) (hx : x ∉ l.take i) : (dd l).idxOf x = (dd (l.take i)).length := by
  obtain ⟨t, ht⟩ := dd_pre l (i + 1)
  rw [dd_snoc h, if_neg hx] at ht
  rw [ht, List.append_assoc, List.idxOf_append, if_neg (fun h => hx (mem_dd.1 h))]
  simp
theorem dd_len (l : List Int) : (dd l).length ≤ l.length := by
  have : ∀ (l acc : List Int), (l.foldl ddStep acc).length ≤ acc.length + l.length := fun l => by
    induction l with
    | nil => intro acc; simp
    | cons x l ih =>
      intro acc
      have := ih (ddStep acc x)
      have h2 : (ddStep acc x).length ≤ acc.length + 1 := by unfold ddStep; split <;> simp
      simp only [List.foldl_cons, List.length_cons]; omega
  have := this l []
  simpa [dd] using this
theorem nmOf_len (D l : List Int) : (nmOf D l).length = l.length := by simp [nmOf]
theorem nmOf_get {D l : List Int} {k : Nat} {x : Int} (h : l[k]? = some x) : (nmOf D l)[k]? = some ((D.idxOf x : Nat) : Int) := by unfold nmOf; rw [List.getElem?_map, h]; rfl
theorem nmOf_snoc {D l : List Int} {i : Nat} {x : Int} (h : l[i]? = some x) : nmOf D (l.take (i + 1)) = nmOf D (l.take i) ++ [((D.idxOf x : Nat) : Int)] := by
  unfold nmOf; rw [List.take_add_one, h, List.map_append]; rfl
theorem take_snoc {α : Type} {l : List α} {i : Nat} {x : α} (h : l[i]? = some x) : l.take (i + 1) = l.take i ++ [x] := by rw [List.take_add_one, h]; rfl

theorem of48_is (nl : Bool) (l : List Int) (c : Cp) (hl : l.length < 1000000) : PureIs prog 48 [.sl nl (l.map intC) c] (.sl (nm l).isEmpty ((nm l).map intC) .unk) := by
  obtain ⟨D, hD⟩ : ∃ D, D = dd l := ⟨_, rfl⟩
  refine PureIs.of (nv := 1) (hid := [2, 3, 4, 5, 6, 7, 11, 16, 27, 33]) func48 rfl (by kernel_rfl) (by simp [ntmps48]) fun _ => ?_
  rw [ntmps48, results48]
  refine EvC.seq (EvC.rg (by (simp only [go_sem]) <;> rfl) (by simp) ?_)
  refine EvC.seq (EvC.rg (by (simp only [go_sem]) <;> rfl) (by simp) ?_)
  refine EvC.seq (EvC.rg (by (simp only [go_sem]) <;> rfl) (by simp) ?_)
  refine EvC.seq ?_
  refine EvC.seq (EvC.rg (by (simp only [go_sem]) <;> rfl) (by simp) ?_)
  refine EvC.block ?_  -- 0
  refine EvC.loopS (σ := Nat × List Int × Nat) (fun g => ⟨[(0, .sl nl (l.map intC) c), (3, .tl 0 g.2.1.length g.2.1.isEmpty), (4, .sc (.int .i64 g.2.2)), (5, .sc (.int .i64 g.1))], [], [(0, .arr 1 (g.2.1.map intC) true)], 1⟩) (fun g => l.length - g.1)
    (fun g => g.1 ≤ l.length ∧ g.2.1 = nmOf D (l.take g.1) ∧ g.2.2 = (dd (l.take g.1)).length) [0, 3, 4, 5] 1 ?_ ?_
  · exact ⟨[(1, 0)], (0, [], 0), rfl, (by (simp only [go_sem]) <;> rfl), Nat.zero_le _, rfl, rfl⟩
  rintro ⟨i, out, n⟩ ⟨h1, h2, h3⟩
  simp only at h1 h2 h3
  have hol : out.length = i := by rw [h2, nmOf_len]; simp; omega
  have hnl : n ≤ l.length := by rw [h3]; have := dd_len (l.take i); simp at this; omega
  refine EvC.seq ?_
  refine EvC.seq (EvC.rg (by (simp only [go_sem]) <;> rfl) (by simp) ?_)
  refine EvC.cond (by (simp only [go_sem]) <;> rfl) (fun hc => ?_) (fun hc => ?_)
  rotate_left
  · refine EvC.exit ?_  -- 0
    obtain rfl : i = l.length := by have : ¬ i < l.length := by simpa using hc
                                    omega
    rw [List.take_length] at h2
    refine EvC.frz 0 (by (simp only [go_sem, List.length_map]) <;> rfl) ?_
    refine EvC.seq (EvC.rg (by (simp only [go_sem]) <;> rfl) (by simp) ?_)
    refine EvC.ret ⟨.inl rfl, _, (by (simp only [go_sem]) <;> rfl), ?_, rfl⟩
    simp only [go_sem]
    rw [nm, h2, hD]
  have hi : i < l.length := by simpa using hc
  have he : l[i]? = some l[i] := List.getElem?_eq_getElem hi
  generalize l[i] = x at he
  refine EvC.skip ?_
  refine EvC.seq ?_
  refine EvC.block ?_  -- 1
  refine EvC.seq (EvC.rg (by (simp only [go_sem]) <;> rfl) (by simp) ?_)
  refine EvC.seq ?_
  refine EvC.seq (EvC.rg (by (simp only [go_sem]) <;> rfl) (by simp) ?_)
  refine EvC.block ?_  -- 2
  refine EvC.loopS (σ := Nat × Int) (fun g => ⟨[(0, .sl nl (l.map intC) c), (3, .tl 0 out.length out.isEmpty), (4, .sc (.int .i64 n)), (5, .sc (.int .i64 i)), (6, .sc (.int .i64 g.2)), (7, .sc (.int .i64 g.1))], [], [(0, .arr 1 (out.map intC) true)], 1⟩) (fun g => i - g.1)
    (fun g => g.1 ≤ i ∧ g.2 = if x ∈ l.take g.1 then ((D.idxOf x : Nat) : Int) else -1) [0, 3, 4, 5, 6, 7] 1 ?_ ?_
  · exact ⟨[(0, 0)], (0, -1), rfl, (by (simp only [go_sem]) <;> rfl), Nat.zero_le _, by simp⟩
  rintro ⟨k, b⟩ ⟨k1, k2⟩
  simp only at k1 k2
  refine EvC.seq ?_
  refine EvC.seq (EvC.rg (by (simp only [go_sem]) <;> rfl) (by simp) ?_)
  refine EvC.cond (by (simp only [go_sem]) <;> rfl) (fun hc => ?_) (fun hc => ?_)
  rotate_left
  · refine EvC.exit ?_  -- 2
    obtain rfl : k = i := by have : ¬ k < i := by simpa using hc
                             omega
    refine EvC.seq ?_
    refine EvC.seq (EvC.rg (by (simp only [go_sem]) <;> rfl) (by simp) ?_)
    refine EvC.cond (by (simp only [go_sem]) <;> rfl) (fun hc => ?_) (fun hc => ?_)
    · have hb : b < 0 := by simpa using hc
      have hx : x ∉ l.take k := fun h => by rw [if_pos h] at k2; omega
      have hdx : ((D.idxOf x : Nat) : Int) = n := by rw [hD, idx_new he hx, h3]
      refine EvC.seq (EvC.rg (by (simp only [go_sem]) <;> rfl) (by simp) ?_)
      refine EvC.rg (by (simp only [go_sem]) <;> rfl) (by exact inI64_of (by omega) (by omega)) ?_
      refine EvC.rg (by (simp only [go_sem, List.length_map]) <;> rfl) (by simp [room_eq, AV.norefs, AV.noref]; omega) ?_
      refine EvC.rg (by (simp only [go_sem]) <;> rfl) (by exact inI64_of (by omega) (by omega)) ?_
      refine ⟨[(0, 0)], (k + 1, out ++ [(n : Int)], n + 1), rfl, (by (simp only [go_sem, intC, List.length_map]) <;> rfl), ⟨by simp only; omega, ?_, ?_⟩, by simp only; omega⟩
      · simp only; rw [nmOf_snoc he, h2, hdx]
      · simp only; rw [dd_snoc he, if_neg hx, h3]; simp
    have hb : ¬ b < 0 := by simpa using hc
    have hx : x ∈ l.take k := by
      by_cases h : x ∈ l.take k
      · exact h
      · rw [if_neg h] at k2; omega
    rw [if_pos hx] at k2
    refine EvC.skip ?_
    refine EvC.rg (by (simp only [go_sem, List.length_map]) <;> rfl) (by simp [room_eq, AV.norefs, AV.noref]; omega) ?_
    refine EvC.rg (by (simp only [go_sem]) <;> rfl) (by exact inI64_of (by omega) (by omega)) ?_
    refine ⟨[(0, 0)], (k + 1, out ++ [b], n), rfl, (by (simp only [go_sem, intC, List.length_map]) <;> rfl), ⟨by simp only; omega, ?_, ?_⟩, by simp only; omega⟩
    · simp only; rw [nmOf_snoc he, h2, k2]
    · simp only; rw [dd_snoc he, if_pos hx, h3]
  have hk : k < i := by simpa using hc
  have hke : l[k]? = some l[k] := List.getElem?_eq_getElem (by omega)
  generalize l[k] = y at hke
  have htk := take_snoc hke
  have hok : out[k]? = some ((D.idxOf y : Nat) : Int) := by
    rw [h2]; exact nmOf_get (by rw [List.getElem?_take, if_pos hk]; exact hke)
  refine EvC.skip ?_
  refine EvC.seq ?_
  refine EvC.block ?_  -- 3
  apply EvC.seq
  apply EvC.drd mixed
  · (simp only [go_sem, hke, he, intC]) <;> rfl
  · simp
  · kernel_rfl
  refine EvC.cond (by (simp only [go_sem]) <;> rfl) (fun hc => ?_) (fun hc => ?_)
  · have hc : y = x := by simpa using hc
    subst hc
    refine EvC.rg (by (simp only [go_sem, hok, intC]) <;> rfl) (by simp [hol]; omega) ?_
    refine EvC.rg (by (simp only [go_sem]) <;> rfl) (by exact inI64_of (by omega) (by omega)) ?_
    exact ⟨[(0, 0)], (k + 1, ((D.idxOf y : Nat) : Int)), rfl, (by (simp only [go_sem]) <;> rfl), ⟨by simp only; omega, by simp only; rw [if_pos (by rw [htk]; simp)]⟩, by simp only; omega⟩
  have hc : ¬ y = x := by simpa using hc
  refine EvC.skip ?_
  refine EvC.rg (by (simp only [go_sem]) <;> rfl) (by exact inI64_of (by omega) (by omega)) ?_
  refine ⟨[(0, 0)], (k + 1, b), rfl, (by (simp only [go_sem]) <;> rfl), ⟨by simp only; omega, ?_⟩, by simp only; omega⟩
  simp only
  rw [k2, htk]
  have : x ∈ l.take k ++ [y] ↔ x ∈ l.take k := by simp; intro h; exact absurd h.symm hc
  by_cases h : x ∈ l.take k
  · rw [if_pos h, if_pos (this.2 h)]
  · rw [if_neg h, if_neg (fun h' => h (this.1 h'))]
end Go.Avl
namespace Go.Avl
open Go Go.Proofs.Try
set_option maxRecDepth 10000
set_option linter.unusedSimpArgs false

@[go_sem] theorem key3 : isKey prog 3 = keyTest false [.int .i64] := isKey_of (by kernel_rfl) (by kernel_rfl)
def entsI : Nat → List Int → List (Value × AV)
  | _, [] => []
  | i, c :: l => (.int .i64 c, .sc (.int .i64 i)) :: entsI (i + 1) l
@[go_sem] theorem norefs_entsI : ∀ (l : List Int) (i : Nat), ((entsI i l).all fun p => p.2.noref) = true
  | [], _ => rfl
  | c :: l, i => by simp only [entsI, List.all_cons, norefs_entsI l, AV.noref, Bool.and_self]
@[go_sem] theorem entsI_len : ∀ (l : List Int) (i : Nat), (entsI i l).length = l.length
  | [], _ => rfl
  | c :: l, i => by simp only [entsI, List.length_cons, entsI_len l]
theorem eqVal_int (a b : Int) : eqVal (.int .i64 a) (.int .i64 b) = decide (a = b) := by
  simp [eqVal, Value.cells, eqCells, eqCell]
theorem elook_entsI (x : Int) : ∀ (l : List Int) (i : Nat), elook (entsI i l) (.int .i64 x) = if x ∈ l then some (.sc (.int .i64 (i + l.idxOf x : Nat))) else none
  | [], _ => rfl
  | d :: l, i => by
    simp only [entsI, elook, eqVal_int, List.mem_cons, List.idxOf_cons]
    by_cases h : x = d
    · subst h; simp
    · have h' : (d == x) = false := by simpa using fun e => h e.symm
      rw [if_neg (by simpa using h), elook_entsI x l (i + 1), h']
      simp only [h, false_or, cond_false]
      by_cases hc : x ∈ l
      · rw [if_pos hc, if_pos hc, show i + 1 + l.idxOf x = i + (l.idxOf x + 1) by omega]
      · rw [if_neg hc, if_neg hc]
theorem eset_entsI (x : Int) : ∀ (l : List Int) (i : Nat), x ∉ l → eset (entsI i l) (.int .i64 x) (.sc (.int .i64 (i + l.length : Nat))) = entsI i (l ++ [x])
  | [], _, _ => rfl
  | d :: l, i, h => by
    simp only [List.mem_cons, not_or] at h
    simp only [entsI, eset, eqVal_int, List.cons_append]
    rw [if_neg (by simpa using h.1)]
    congr 1
    have := eset_entsI x l (i + 1) h.2
    rw [show i + 1 + l.length = i + (d :: l).length by simp; omega] at this
    exact this
theorem named_is (nl : Bool) (l : List Int) (c : Cp) (hl : l.length < 1000000) (hne : 0 < l.length) : PureIs prog 63 [.sl nl (l.map intC) c] (.sl false ((nm l).map intC) .full) := by
  obtain ⟨D, hD⟩ : ∃ D, D = dd l := ⟨_, rfl⟩
  refine PureIs.of (nv := 1) (hid := [2, 3, 4, 5, 6, 8, 12, 13, 14, 15, 16, 27]) func63 rfl (by kernel_rfl) (by simp [ntmps63]) fun _ => ?_
  rw [ntmps63, results63]
  refine EvC.seq (EvC.rg (by (simp only [go_sem]) <;> rfl) (by simp) ?_)
  refine EvC.seq (EvC.rg (by (simp only [go_sem]) <;> rfl) (by simp) ?_)
  have hz : ∀ n : Nat, List.replicate n [AV.sc (.int .i64 0)] = (List.replicate n (0 : Int)).map intC := fun n => by simp [intC]
  refine EvC.seq (EvC.rg (by (simp only [go_sem, Int.toNat_natCast, hz]) <;> rfl) (by simp [room_eq, hne]; omega) ?_)
  refine EvC.seq ?_
  refine EvC.seq (EvC.rg (by (simp only [go_sem]) <;> rfl) (by simp) ?_)
  refine EvC.block ?_  -- 0
  refine EvC.loopS (σ := Nat × List Int × List Int) (fun g => ⟨[(3, .mp 0), (4, .tv 1 l.length 0 l.length (.val l.length)), (13, .sl nl (l.map intC) c), (14, .sc (.int .i64 l.length)), (15, .sc (.int .i64 g.1))], [], [(0, .map 3 (entsI 0 g.2.1)), (1, .arr 1 (g.2.2.map intC) false)], 2⟩) (fun g => l.length - g.1)
    (fun g => g.1 ≤ l.length ∧ g.2.1 = dd (l.take g.1) ∧ g.2.2 = nmOf D (l.take g.1) ++ List.replicate (l.length - g.1) 0) [3, 4, 13, 14, 15] 2 ?_ ?_
  · exact ⟨[(1, 0), (5, 1)], (0, [], List.replicate l.length 0), rfl, (by (simp only [go_sem, entsI]) <;> rfl), Nat.zero_le _, rfl, rfl⟩
  rintro ⟨i, E, out⟩ ⟨h1, h2, h3⟩
  simp only at h1 h2 h3
  have hol : out.length = l.length := by rw [h3]; simp [nmOf_len]; omega
  refine EvC.seq (EvC.rg (by (simp only [go_sem]) <;> rfl) (by simp) ?_)
  refine EvC.seq ?_
  refine EvC.cond (by (simp only [go_sem]) <;> rfl) (fun hc => ?_) (fun hc => ?_)
  rotate_left
  · refine EvC.exit ?_  -- 0
    obtain rfl : i = l.length := by have : ¬ i < l.length := by simpa using hc
                                    omega
    rw [List.take_length] at h3
    have ho : out = nm l := by rw [h3, nm, hD]; simp
    subst ho
    refine EvC.frz 1 (by (simp only [go_sem, List.length_map, hol]) <;> rfl) ?_
    refine EvC.seq (EvC.rg (by (simp only [go_sem]) <;> rfl) (by simp) ?_)
    refine EvC.ret ⟨.inl rfl, _, (by (simp only [go_sem]) <;> rfl), ?_, rfl⟩
    simp only [go_sem]
  have hi : i < l.length := by simpa using hc
  have he : l[i]? = some l[i] := List.getElem?_eq_getElem hi
  generalize l[i] = x at he
  have hr : l.length - i = (l.length - (i + 1)) + 1 := by omega
  have hset' : ∀ y : Int, out.set i y = (nmOf D (l.take i) ++ [y]) ++ List.replicate (l.length - (i + 1)) 0 := fun y => by
    rw [h3, hr, List.replicate_succ]
    have := set_mid (nmOf D (l.take i)) (List.replicate (l.length - (i + 1)) 0) 0 y
    rw [nmOf_len, List.length_take, Nat.min_eq_left h1] at this
    rw [this]; simp
  have hset : ∀ y : Int, (out.map intC).set i [.sc (.int .i64 y)] = (out.set i y).map intC := fun y => by
    rw [show [AV.sc (.int .i64 y)] = intC y from rfl, ← List.map_set]
  have hge : out[i]? = some 0 := by
    rw [h3, List.getElem?_append_right (by simp [nmOf_len]; omega), hr]; simp [nmOf_len, Nat.min_eq_left h1]
  have hel := elook_entsI x E 0
  have hxE : x ∈ E ↔ x ∈ l.take i := by rw [h2]; exact mem_dd
  refine EvC.skip ?_
  refine EvC.seq ?_
  refine EvC.block ?_  -- 1
  refine EvC.seq (EvC.rg (by (simp only [go_sem, he, intC, Int.toNat_natCast]) <;> rfl) (by simp) ?_)
  refine EvC.seq ?_
  by_cases hx : x ∈ l.take i
  · rw [if_pos (hxE.2 hx), Nat.zero_add] at hel
    have hdx : E.idxOf x = D.idxOf x := by rw [h2, hD, idx_old hx]
    refine EvC.seq (EvC.rg (by (simp only [go_sem, hel]) <;> rfl) (by simp [descAgg, keyTest, matchKinds, matchKind]) ?_)
    refine EvC.seq (EvC.rg (by (simp only [go_sem]) <;> rfl) (by simp) ?_)
    refine EvC.cond_false (by (simp only [go_sem]) <;> rfl) ?_
    refine EvC.skip ?_
    refine EvC.rg (by (simp only [go_sem, hel, hset, hge, intC, Int.toNat_natCast, Nat.zero_add]) <;> rfl) (by simp [descAgg, keyTest, matchKinds, matchKind, hol]; omega) ?_
    refine EvC.rg (by (simp only [go_sem]) <;> rfl) (by exact inI64_of (by omega) (by omega)) ?_
    refine ⟨[(0, 0), (1, 1)], (i + 1, E, out.set i ((E.idxOf x : Nat) : Int)), rfl, (by (simp only [go_sem]) <;> rfl), ⟨by simp only; omega, ?_, ?_⟩, by simp only; omega⟩
    · simp only; rw [dd_snoc he, if_pos hx, h2]
    · simp only; rw [hset', nmOf_snoc he, hdx]
  · rw [if_neg (fun h => hx (hxE.1 h))] at hel
    have hes := eset_entsI x E 0 (fun h => hx (hxE.1 h))
    rw [Nat.zero_add] at hes
    have hel2 := elook_entsI x (E ++ [x]) 0
    have hidx : (E ++ [x]).idxOf x = E.length := by rw [List.idxOf_append, if_neg (fun h => hx (hxE.1 h))]; simp
    rw [if_pos (by simp), Nat.zero_add, hidx] at hel2
    have hdx : E.length = D.idxOf x := by rw [h2, hD, idx_new he hx]
    refine EvC.seq (EvC.rg (by (simp only [go_sem, hel]) <;> rfl) (by simp [descAgg, keyTest, matchKinds, matchKind]) ?_)
    refine EvC.seq (EvC.rg (by (simp only [go_sem]) <;> rfl) (by simp) ?_)
    refine EvC.cond_true (by (simp only [go_sem]) <;> rfl) ?_
    refine EvC.rg (by (simp only [go_sem, hes]) <;> rfl) (by simp [descAgg, keyTest, matchKinds, matchKind]) ?_
    refine EvC.rg (by (simp only [go_sem, hel2, hset, hge, intC, Int.toNat_natCast, Nat.zero_add]) <;> rfl) (by simp [descAgg, keyTest, matchKinds, matchKind, hol]; omega) ?_
    refine EvC.rg (by (simp only [go_sem]) <;> rfl) (by exact inI64_of (by omega) (by omega)) ?_
    refine ⟨[(0, 0), (1, 1)], (i + 1, E ++ [x], out.set i ((E.length : Nat) : Int)), rfl, (by (simp only [go_sem]) <;> rfl), ⟨by simp only; omega, ?_, ?_⟩, by simp only; omega⟩
    · simp only; rw [dd_snoc he, if_neg hx, h2]
    · simp only; rw [hset', nmOf_snoc he, hdx]
theorem of47_is (nl : Bool) (l : List Int) (c : Cp) (hl : l.length ≤ 256) (hne : 0 < l.length) : PureIs prog 47 [.sl nl (l.map intC) c] (.tu [.sl false ((nm l).map intC) .full, .sc (.int .i64 0)]) := by
  refine PureIs.of (nv := 1) (hid := [2, 3, 6]) func47 rfl (by kernel_rfl) (by simp [ntmps47]) fun _ => ?_
  rw [ntmps47, results47]
  refine EvC.seq (EvC.rg (by (simp only [go_sem]) <;> rfl) (by simp) ?_)
  refine EvC.seq ?_
  refine EvC.seq (EvC.rg (by (simp only [go_sem]) <;> rfl) (by simp) ?_)
  have h : decide ((256 : Int) < (l.length : Int)) = false := by simp; omega
  refine EvC.cond_false (by (simp only [go_sem, h]) <;> rfl) ?_
  refine EvC.skip ?_
  apply EvC.seq
  apply EvC.tr
  · apply Tr.run
    · (simp only [go_sem]) <;> rfl
    · simp
    apply Tr.cons
    · exact .call rfl rfl (by (simp only [go_sem]) <;> rfl) (by (simp only [go_sem]) <;> rfl) (by (simp only [go_sem]) <;> rfl) (by (simp only [go_sem]) <;> rfl) (by (simp only [go_sem]) <;> rfl) (named_is nl l c (by omega) hne)
    apply Tr.done
    · (simp only [go_sem]) <;> rfl
    · simp
  refine EvC.ret ⟨.inl rfl, _, (by (simp only [go_sem]) <;> rfl), ?_, rfl⟩
  simp only [go_sem]
/-- A finer partition. -/
theorem finer_is (np : Bool) (p : List Int) (cp : Cp) (nq : Bool) (q : List Int) (cq : Cp) (hl : p.length < 1000000) (hpq : p.length ≤ q.length) (h : ∀ i k : Nat, k < i → i < p.length → p[i]? = p[k]? → q[i]? = q[k]?) :
    PureIs prog 25 [.sl np (p.map intC) cp, .sl nq (q.map intC) cq] (.sc (.int .i64 1)) := by
  refine PureIs.of (nv := 2) (hid := [4, 5, 6, 10, 15, 37]) func25 rfl (by kernel_rfl) (by simp [ntmps25]) fun _ => ?_
  rw [ntmps25, results25]
  refine EvC.seq (EvC.rg (by (simp only [go_sem]) <;> rfl) (by simp) ?_)
  refine EvC.seq ?_
  refine EvC.seq (EvC.rg (by (simp only [go_sem]) <;> rfl) (by simp) ?_)
  refine EvC.block ?_  -- 0
  refine EvC.loopS (σ := Nat) (fun i => ⟨[(0, .sl np (p.map intC) cp), (1, .sl nq (q.map intC) cq), (5, .sc (.int .i64 i))], [], [], 0⟩) (fun i => p.length - i) (fun i => i ≤ p.length) [0, 1, 5] 0 ?_ ?_
  · exact ⟨[], 0, rfl, (by (simp only [go_sem]) <;> rfl), Nat.zero_le _⟩
  intro i hi
  refine EvC.seq ?_
  refine EvC.seq (EvC.rg (by (simp only [go_sem]) <;> rfl) (by simp) ?_)
  refine EvC.cond (by (simp only [go_sem]) <;> rfl) (fun hc => ?_) (fun hc => ?_)
  rotate_left
  · refine EvC.exit ?_  -- 0
    refine EvC.seq (EvC.rg (by (simp only [go_sem]) <;> rfl) (by simp) ?_)
    refine EvC.ret ⟨.inl rfl, _, (by (simp only [go_sem]) <;> rfl), ?_, rfl⟩
    simp only [go_sem]
  have hi : i < p.length := by simpa using hc
  refine EvC.skip ?_
  refine EvC.seq ?_
  refine EvC.block ?_  -- 1
  refine EvC.seq (EvC.rg (by (simp only [go_sem]) <;> rfl) (by simp) ?_)
  refine EvC.block ?_  -- 2
  refine EvC.loopS (σ := Nat) (fun k => ⟨[(0, .sl np (p.map intC) cp), (1, .sl nq (q.map intC) cq), (5, .sc (.int .i64 i)), (6, .sc (.int .i64 k))], [], [], 0⟩) (fun k => i - k) (fun k => k ≤ i) [0, 1, 5, 6] 0 ?_ ?_
  · exact ⟨[], 0, rfl, (by (simp only [go_sem]) <;> rfl), Nat.zero_le _⟩
  intro k hk
  refine EvC.seq ?_
  refine EvC.seq (EvC.rg (by (simp only [go_sem]) <;> rfl) (by simp) ?_)
  refine EvC.cond (by (simp only [go_sem]) <;> rfl) (fun hc => ?_) (fun hc => ?_)
  rotate_left
  · refine EvC.exit ?_  -- 2
    refine EvC.rg (by (simp only [go_sem]) <;> rfl) (by exact inI64_of (by omega) (by omega)) ?_
    exact ⟨[], i + 1, rfl, (by (simp only [go_sem]) <;> rfl), by omega, by omega⟩
  have hk : k < i := by simpa using hc
  have h1 : p[i]? = some p[i] := List.getElem?_eq_getElem hi
  have h2 : p[k]? = some (p[k]'(by omega)) := List.getElem?_eq_getElem _
  have h3 : q[i]? = some (q[i]'(by omega)) := List.getElem?_eq_getElem _
  have h4 : q[k]? = some (q[k]'(by omega)) := List.getElem?_eq_getElem _
  have h5 := h i k hk hi
  generalize p[i] = a at h1
  generalize p[k]'(by omega) = b at h2
  generalize q[i]'(by omega) = u at h3
  generalize q[k]'(by omega) = v at h4
  rw [h1, h2, h3, h4] at h5
  have h6 : a = b → u = v := fun e => by simpa using h5 (by rw [e])
  refine EvC.skip ?_
  refine EvC.seq ?_
  refine EvC.block ?_  -- 3
  apply EvC.seq
  apply EvC.drd mixed
  · (simp only [go_sem, h1, h2, h3, h4, intC]) <;> rfl
  · simp
  · kernel_rfl
  refine EvC.cond (by (simp only [go_sem]) <;> rfl) (fun hc => ?_) (fun hc => ?_)
  · exfalso
    by_cases e : a = b
    · simp [e, h6 e] at hc
    · simp [e] at hc
  refine EvC.skip ?_
  refine EvC.rg (by (simp only [go_sem]) <;> rfl) (by exact inI64_of (by omega) (by omega)) ?_
  exact ⟨[], k + 1, rfl, (by (simp only [go_sem]) <;> rfl), by omega, by omega⟩
def countR (l : List Int) : Int := l.foldl (fun n x => if n ≤ x then x + 1 else n) 0
theorem count_is (nl : Bool) (l : List Int) (c : Cp) (hl : l.length < 1000000) (hx : ∀ x ∈ l, 0 ≤ x ∧ x < 1000000) : PureIs prog 26 [.sl nl (l.map intC) c] (.sc (.int .i64 (countR l))) := by
  refine PureIs.of (nv := 1) (hid := [2, 3, 4, 8, 16]) func26 rfl (by kernel_rfl) (by simp [ntmps26]) fun _ => ?_
  rw [ntmps26, results26]
  refine EvC.seq (EvC.rg (by (simp only [go_sem]) <;> rfl) (by simp) ?_)
  refine EvC.seq (EvC.rg (by (simp only [go_sem]) <;> rfl) (by simp) ?_)
  refine EvC.seq ?_
  refine EvC.seq (EvC.rg (by (simp only [go_sem]) <;> rfl) (by simp) ?_)
  refine EvC.block ?_  -- 0
  refine EvC.loopS (σ := Nat) (fun i => ⟨[(0, .sl nl (l.map intC) c), (3, .sc (.int .i64 (countR (l.take i)))), (4, .sc (.int .i64 i))], [], [], 0⟩) (fun i => l.length - i) (fun i => i ≤ l.length) [0, 3, 4] 0 ?_ ?_
  · exact ⟨[], 0, rfl, (by (simp only [go_sem, countR, List.foldl_nil]) <;> rfl), Nat.zero_le _⟩
  intro i hi
  refine EvC.seq ?_
  refine EvC.seq (EvC.rg (by (simp only [go_sem]) <;> rfl) (by simp) ?_)
  refine EvC.cond (by (simp only [go_sem]) <;> rfl) (fun hc => ?_) (fun hc => ?_)
  rotate_left
  · refine EvC.exit ?_  -- 0
    obtain rfl : i = l.length := by have : ¬ i < l.length := by simpa using hc
                                    omega
    rw [List.take_length]
    refine EvC.seq (EvC.rg (by (simp only [go_sem]) <;> rfl) (by simp) ?_)
    refine EvC.ret ⟨.inl rfl, _, (by (simp only [go_sem]) <;> rfl), ?_, rfl⟩
    simp only [go_sem]
  have hi : i < l.length := by simpa using hc
  have he : l[i]? = some l[i] := List.getElem?_eq_getElem hi
  have hb := hx _ (List.getElem_mem hi)
  generalize l[i] = x at he hb
  have hs : countR (l.take (i + 1)) = if countR (l.take i) ≤ x then x + 1 else countR (l.take i) := by
    rw [take_snoc he, countR, List.foldl_append]; rfl
  refine EvC.skip ?_
  refine EvC.seq ?_
  refine EvC.block ?_  -- 1
  refine EvC.seq (EvC.rg (by (simp only [go_sem, he, intC]) <;> rfl) (by simp) ?_)
  refine EvC.cond (by (simp only [go_sem]) <;> rfl) (fun hc => ?_) (fun hc => ?_)
  · have hc : countR (l.take i) ≤ x := by simpa using hc
    rw [if_pos hc] at hs
    refine EvC.rg (by (simp only [go_sem, he, intC]) <;> rfl) (by exact inI64_of (by omega) (by omega)) ?_
    refine EvC.rg (by (simp only [go_sem]) <;> rfl) (by exact inI64_of (by omega) (by omega)) ?_
    exact ⟨[], i + 1, rfl, (by (simp only [go_sem, hs]) <;> rfl), by omega, by omega⟩
  have hc : ¬ countR (l.take i) ≤ x := by simpa using hc
  rw [if_neg hc] at hs
  refine EvC.skip ?_
  refine EvC.rg (by (simp only [go_sem]) <;> rfl) (by exact inI64_of (by omega) (by omega)) ?_
  exact ⟨[], i + 1, rfl, (by (simp only [go_sem, hs]) <;> rfl), by omega, by omega⟩
end Go.Avl
namespace Go.Avl
open Go Go.Proofs.Try
set_option maxRecDepth 10000
set_option linter.unusedSimpArgs false

/-- The words in their order. -/
def wordAt (k : Int) : Nat → List Int
  | 0 => []
  | n + 1 => nextW k (wordAt k n)
theorem incrW_ok {k : Int} (hk : 1 ≤ k) : ∀ {w : List Int}, (∀ x ∈ w, 0 ≤ x ∧ x < k) → (∀ x ∈ (incrW k w).1, 0 ≤ x ∧ x < k) ∧ (incrW k w).1.length = w.length
  | [], _ => by simp [incrW]
  | x :: w, h => by
    obtain ⟨h1, h2⟩ := incrW_ok hk (w := w) fun y hy => h y (List.mem_cons_of_mem _ hy)
    have hx := h x List.mem_cons_self
    unfold incrW
    split
    · split
      · exact ⟨fun y hy => by rcases List.mem_cons.1 hy with rfl | hy; omega; exact h1 y hy, by simp [h2]⟩
      · exact ⟨fun y hy => by rcases List.mem_cons.1 hy with rfl | hy; omega; exact h1 y hy, by simp [h2]⟩
    · exact ⟨fun y hy => by rcases List.mem_cons.1 hy with rfl | hy; exact hx; exact h1 y hy, by simp [h2]⟩
theorem nextW_ok {k : Int} (hk : 1 ≤ k) {w : List Int} (h : ∀ x ∈ w, 0 ≤ x ∧ x < k) : (∀ x ∈ nextW k w, 0 ≤ x ∧ x < k) ∧ w.length ≤ (nextW k w).length ∧ (nextW k w).length ≤ w.length + 1 := by
  obtain ⟨h1, h2⟩ := incrW_ok hk h
  unfold nextW
  split
  · refine ⟨fun y hy => ?_, by simp [h2], by simp [h2]⟩
    rcases List.mem_append.1 hy with hy | hy
    · exact h1 y hy
    · simp at hy; omega
  · exact ⟨h1, by omega, by omega⟩
theorem wordAt_ok {k : Int} (hk : 1 ≤ k) : ∀ (n : Nat), (∀ x ∈ wordAt k n, 0 ≤ x ∧ x < k)
  | 0 => by simp [wordAt]
  | n + 1 => (nextW_ok hk (wordAt_ok hk n)).1

theorem refsep_is {m : Mach} (hv : Valid m) (s t : Int) (hs : s < m.rows.length) (ht : t < m.rows.length) (k : Nat)
    (hlt : ∀ j < k, (wordAt m.ins j).length < max m.rows.length 2 ∧ runR m s (wordAt m.ins j) = runR m t (wordAt m.ins j)) (w : List Int)
    (hw : ((wordAt m.ins k).length < max m.rows.length 2 ∧ runR m s w ≠ runR m t w ∧ w = wordAt m.ins k) ∨ (max m.rows.length 2 ≤ (wordAt m.ins k).length ∧ w = [])) :
    PureIs prog 12 [.ag m.cells, .sc (.int .i64 s), .sc (.int .i64 t)] (.tu [.sl w.isEmpty (w.map intC) .unk, .sc (.bool (!w.isEmpty))]) := by
  have hins := hv.ins
  have hrw := hv.rows
  refine PureIs.of (nv := 4) (hid := [6, 7, 8, 16, 26]) func12 rfl (by kernel_rfl) (by simp [ntmps12]) fun _ => ?_
  rw [ntmps12, results12]
  refine EvC.seq (EvC.rg (by (simp only [go_sem, Mach.cells]) <;> rfl) (by simp) ?_)
  refine EvC.frzB 0 (by (simp only [go_sem]) <;> rfl) ?_
  refine EvC.seq ?_
  refine EvC.seq (EvC.rg (by (simp only [go_sem]) <;> rfl) (by simp) ?_)
  refine EvC.block ?_  -- 0
  refine EvC.loopS (σ := Nat × Cp) (fun g => ⟨[(1, .sc (.int .i64 s)), (2, .sc (.int .i64 t)), (3, .ia m.cells), (8, .sl false ((wordAt m.ins g.1).map intC) g.2)], [], [], 0⟩) (fun g => k - g.1) (fun g => g.1 ≤ k ∧ (g.1 = 0 ∨ g.2 = .unk)) [1, 2, 3, 8] 0 ?_ ?_
  · exact ⟨[], (0, .zer), rfl, (by (simp only [go_sem, Mach.cells, wordAt]) <;> rfl), Nat.zero_le _, .inl rfl⟩
  rintro ⟨j, cp⟩ ⟨hj, hcp⟩
  simp only at hj hcp
  have hok := wordAt_ok hins.1 j
  obtain ⟨v, hvj⟩ : ∃ v, v = wordAt m.ins j := ⟨_, rfl⟩
  rw [← hvj] at hok ⊢
  refine EvC.seq ?_
  refine EvC.seq (EvC.rg (by (simp only [go_sem, Mach.cells]) <;> rfl) (by simp) ?_)
  refine EvC.cond (by (simp only [go_sem]) <;> rfl) (fun hc => ?_) (fun hc => ?_)
  rotate_left
  · refine EvC.exit ?_  -- 0
    have hlen : max m.rows.length 2 ≤ v.length := by
      by_cases h2 : (m.rows.length : Int) ≤ 2 <;> simp [h2] at hc <;> omega
    have hjk : j = k := by
      by_cases h : j < k
      · have := (hlt j h).1; rw [← hvj] at this; omega
      · omega
    subst hjk
    have hwe : w = [] := by
      rcases hw with ⟨h1, _, _⟩ | ⟨_, h⟩
      · rw [← hvj] at h1; omega
      · exact h
    subst hwe
    refine EvC.seq (EvC.rg (by (simp only [go_sem]) <;> rfl) (by simp) ?_)
    refine EvC.ret ⟨.inl rfl, _, (by (simp only [go_sem]) <;> rfl), ?_, rfl⟩
    simp only [go_sem]
  have hlen : v.length < max m.rows.length 2 := by
    by_cases h2 : (m.rows.length : Int) ≤ 2 <;> simp [h2] at hc <;> omega
  refine EvC.skip ?_
  refine EvC.seq ?_
  refine EvC.block ?_  -- 1
  apply EvC.seq
  apply EvC.tr
  · apply Tr.run
    · (simp only [go_sem, Mach.cells]) <;> rfl
    · simp
    apply Tr.cons
    · exact .call rfl rfl (by (simp only [go_sem]) <;> rfl) (by (simp only [go_sem]) <;> rfl) (by (simp only [go_sem]) <;> rfl) (by (simp only [go_sem]) <;> rfl) (by (simp only [go_sem]) <;> rfl) (splits_is hv s t hs ht false v cp hok (by omega))
    apply Tr.done
    · (simp only [go_sem]) <;> rfl
    · simp
  by_cases hd : runR m s v = runR m t v
  · rw [if_pos hd]
    have hjk : j < k := by
      by_cases h : j < k
      · exact h
      · obtain rfl : j = k := by omega
        rcases hw with ⟨_, h2, h3⟩ | ⟨h1, _⟩
        · rw [h3, ← hvj] at h2; exact absurd hd h2
        · rw [← hvj] at h1; omega
    refine EvC.cond_false (by (simp only [go_sem]) <;> rfl) ?_
    refine EvC.skip ?_
    apply EvC.tr
    · apply Tr.run
      · (simp only [go_sem, Mach.cells]) <;> rfl
      · simp
      apply Tr.cons
      · exact .call rfl rfl (by (simp only [go_sem]) <;> rfl) (by (simp only [go_sem]) <;> rfl) (by (simp only [go_sem]) <;> rfl) (by (simp only [go_sem]) <;> rfl) (by (simp only [go_sem]) <;> rfl) (next_is false v cp m.ins (by omega) (fun x hx => by have := hok x hx; omega))
      apply Tr.done
      · (simp only [go_sem]) <;> rfl
      · simp
    have hn : wordAt m.ins (j + 1) = nextW m.ins v := by rw [hvj]; rfl
    exact ⟨[], (j + 1, .unk), rfl, (by (simp only [go_sem, Mach.cells, hn]) <;> rfl), ⟨by simp only; omega, .inr rfl⟩, by simp only; omega⟩
  · rw [if_neg hd]
    have hjk : j = k := by
      by_cases h : j < k
      · have := (hlt j h).2; rw [← hvj] at this; exact absurd this hd
      · omega
    subst hjk
    have hwv : w = v := by
      rcases hw with ⟨_, _, h3⟩ | ⟨h1, _⟩
      · rw [h3, hvj]
      · rw [← hvj] at h1; omega
    have hne : w.isEmpty = false := by
      rw [hwv]
      cases hv0 : v with
      | nil => rw [hv0] at hd; exact absurd rfl hd
      | cons a l => rfl
    refine EvC.cond_true (by (simp only [go_sem]) <;> rfl) ?_
    refine EvC.seq (EvC.rg (by (simp only [go_sem]) <;> rfl) (by simp) ?_)
    have hj0 : j ≠ 0 := by
      rintro rfl
      rw [hvj] at hd; exact hd rfl
    have hcu : cp = .unk := hcp.resolve_left hj0
    subst hcu
    refine EvC.ret ⟨.inl rfl, _, (by (simp only [go_sem]) <;> rfl), ?_, rfl⟩
    simp only [go_sem]
    rw [hne, hwv]; rfl

theorem after22_is {m : Mach} (hv : Valid m) : ∀ (w : List Int) (s : Int) (nl : Bool) (c : Cp), s < m.rows.length → (∀ a ∈ w, 0 ≤ a ∧ a < m.ins) → w.length < 1000000 →
    PureIs prog 22 [.ag m.cells, .sc (.int .i64 s), .sl nl (w.map intC) c] (.sc (.int .i64 (afterR m s w)))
  | [], s, nl, c, hs, hw, hl => by
    refine PureIs.of (nv := 4) (hid := [6, 9]) func22 rfl (by kernel_rfl) (by simp [ntmps22]) fun _ => ?_
    rw [ntmps22, results22]
    refine EvC.seq (EvC.rg (by (simp only [go_sem, Mach.cells]) <;> rfl) (by simp) ?_)
    refine EvC.frzB 0 (by (simp only [go_sem]) <;> rfl) ?_
    refine EvC.seq ?_
    refine EvC.seq (EvC.rg (by (simp only [go_sem]) <;> rfl) (by simp) ?_)
    refine EvC.cond_true (by (simp only [go_sem]) <;> rfl) ?_
    refine EvC.seq (EvC.rg (by (simp only [go_sem]) <;> rfl) (by simp) ?_)
    refine EvC.ret ⟨.inl rfl, _, (by (simp only [go_sem]) <;> rfl), ?_, rfl⟩
    simp only [go_sem]
    rfl
  | a :: w, s, nl, c, hs, hw, hl => by
    have ha := hw a List.mem_cons_self
    have ih := after22_is hv w (stepR m s a).1 nl (cutTail c) (stepR_lt hv hs ha) (fun b hb => hw b (List.mem_cons_of_mem _ hb)) (by simp at hl; omega)
    refine PureIs.of (nv := 4) (hid := [6, 9]) func22 rfl (by kernel_rfl) (by simp [ntmps22]) fun _ => ?_
    rw [ntmps22, results22]
    refine EvC.seq (EvC.rg (by (simp only [go_sem, Mach.cells]) <;> rfl) (by simp) ?_)
    refine EvC.frzB 0 (by (simp only [go_sem]) <;> rfl) ?_
    refine EvC.seq ?_
    refine EvC.seq (EvC.rg (by (simp only [go_sem]) <;> rfl) (by simp) ?_)
    have h0 : decide (((w.length + 1 : Nat) : Int) = 0) = false := by simp; omega
    refine EvC.cond_false (by (simp only [go_sem, h0]) <;> rfl) ?_
    refine EvC.skip ?_
    apply EvC.seq
    apply EvC.drw mixed
    · apply Tr.run
      · (simp only [go_sem, Mach.cells, intC, edgeA, Option.getD_some]) <;> rfl
      · simp [intC]; try omega
      apply Tr.cons
      · exact .call rfl rfl (by (simp only [go_sem]) <;> rfl) (by (simp only [go_sem]) <;> rfl) (by (simp only [go_sem]) <;> rfl) (by (simp only [go_sem]) <;> rfl) (by (simp only [go_sem]) <;> rfl) (stepR_is hv hs ha)
      apply Tr.run
      · (simp only [go_sem, Mach.cells, intC, edgeA, Option.getD_some]) <;> rfl
      · simp [intC]; try omega
      apply Tr.cons
      · exact .call rfl rfl (by (simp only [go_sem]) <;> rfl) (by (simp only [go_sem]) <;> rfl) (by (simp only [go_sem]) <;> rfl) (by (simp only [go_sem]) <;> rfl) (by (simp only [go_sem]) <;> rfl) (ih)
      apply Tr.done
      · (simp only [go_sem]) <;> rfl
      · simp
    · kernel_rfl
    refine EvC.ret ⟨.inl rfl, _, (by (simp only [go_sem]) <;> rfl), ?_, rfl⟩
    simp only [go_sem]
    rfl
end Go.Avl
namespace Go.Avl
open Go Go.Proofs.Try
set_option maxRecDepth 10000
set_option linter.unusedSimpArgs false

def leastFrom (f : Nat → List Int) (s : Nat) : Nat → Nat → Nat
  | 0, k => k
  | n + 1, k => if f k = f s then k else leastFrom f s n (k + 1)
def leastEq (f : Nat → List Int) (s : Nat) : Nat := leastFrom f s s 0
theorem leastFrom_is {f : Nat → List Int} {s K : Nat} (hK : f K = f s) (hlt : ∀ j < K, f j ≠ f s) : ∀ (n k : Nat), k ≤ K → K ≤ k + n → leastFrom f s n k = K
  | 0, k, h1, h2 => by unfold leastFrom; omega
  | n + 1, k, h1, h2 => by
    unfold leastFrom
    by_cases h : k = K
    · subst h; rw [if_pos hK]
    · rw [if_neg (hlt k (by omega)), leastFrom_is hK hlt n (k + 1) (by omega) (by omega)]
theorem leastEq_is {f : Nat → List Int} {s k : Nat} (hk : f k = f s) (hlt : ∀ j < k, f j ≠ f s) : leastEq f s = k :=
  leastFrom_is hk hlt s 0 (Nat.zero_le _) (by
    by_cases h : k ≤ 0 + s
    · exact h
    · exact absurd rfl (hlt s (by omega)))
theorem leastEq_ex (f : Nat → List Int) (s : Nat) : ∃ k, k ≤ s ∧ f k = f s ∧ (∀ j < k, f j ≠ f s) ∧ leastEq f s = k := by
  have hx : ∃ k, f k = f s := ⟨s, rfl⟩
  obtain ⟨k, hk, hlt⟩ : ∃ k, f k = f s ∧ ∀ j < k, f j ≠ f s := by
    have : ∀ n, (∃ k, k ≤ n ∧ f k = f s) → ∃ k, f k = f s ∧ ∀ j < k, f j ≠ f s := by
      intro n
      induction n with
      | zero => rintro ⟨k, hk, he⟩; exact ⟨k, he, fun j hj => by omega⟩
      | succ n ih =>
        rintro ⟨k, hk, he⟩
        by_cases h : ∃ k, k ≤ n ∧ f k = f s
        · exact ih h
        · exact ⟨k, he, fun j hj e => h ⟨j, by omega, e⟩⟩
    exact this s ⟨s, Nat.le_refl _, rfl⟩
  refine ⟨k, ?_, hk, hlt, leastEq_is hk hlt⟩
  by_cases h : k ≤ s
  · exact h
  · exact absurd rfl (hlt s (by omega))
def findIdxG {α : Type} (p : α → Bool) : List α → Int → Int
  | [], _ => -1
  | e :: es, i => if p e = true then i else findIdxG p es (i + 1)
theorem findIdxG_is {α : Type} {p : α → Bool} : ∀ {l : List α} {k : Nat} {e : α} {i : Int}, l[k]? = some e → p e = true → (∀ j < k, ∀ x, l[j]? = some x → p x = false) → findIdxG p l i = i + k
  | [], k, e, i, h, _, _ => by simp at h
  | x :: l, 0, e, i, h, hp, _ => by
    have : x = e := by simpa using h
    subst this
    rw [findIdxG, if_pos hp]; simp
  | x :: l, k + 1, e, i, h, hp, hl => by
    have h0 := hl 0 (by omega) x (by simp)
    rw [findIdxG, if_neg (by simp [h0]), findIdxG_is (k := k) (by simpa using h) hp fun j hj y hy => hl (j + 1) (by omega) y (by simpa using hy)]
    omega
theorem indexL_is (nl : Bool) (xs : List LRow) (c : Cp) (f : FuncId) (cs : List AV) (hcs : AV.norefs cs = true) (p : LRow → Bool) (hp : ∀ e ∈ xs, PureIs prog f (.sl e.1 (e.2.map intC) .unk :: cs) (.sc (.bool (p e)))) (hl : xs.length < 1000000) :
    PureIs prog 45 [.sl nl (xs.map listC) c, .fn f cs] (.sc (.int .i64 (findIdxG p xs 0))) := by
  refine PureIs.of (nv := 2) (hid := [4, 5, 7, 8, 9, 16]) func45 rfl (by kernel_rfl) (by simp [ntmps45]) fun _ => ?_
  rw [ntmps45, results45]
  refine EvC.seq (EvC.rg (by (simp only [go_sem]) <;> rfl) (by simp) ?_)
  refine EvC.seq ?_
  refine EvC.seq (EvC.rg (by (simp only [go_sem]) <;> rfl) (by simp) ?_)
  refine EvC.block ?_  -- 0
  refine EvC.loopS (σ := Nat) (fun i => ⟨[(0, .sl nl (xs.map listC) c), (1, .fn f cs), (7, .sc (.int .i64 xs.length)), (8, .sc (.int .i64 i))], [], [], 0⟩) (fun i => xs.length - i) (fun i => i ≤ xs.length ∧ findIdxG p xs 0 = findIdxG p (xs.drop i) i) [0, 1, 7, 8] 0 ?_ ?_
  · refine ⟨[], 0, rfl, (by (simp only [go_sem, hcs]) <;> rfl), Nat.zero_le _, by simp⟩
  rintro i ⟨h1, h2⟩
  refine EvC.seq (EvC.rg (by (simp only [go_sem]) <;> rfl) (by simp) ?_)
  refine EvC.seq ?_
  refine EvC.cond (by (simp only [go_sem]) <;> rfl) (fun hc => ?_) (fun hc => ?_)
  rotate_left
  · refine EvC.exit ?_  -- 0
    have hi : ¬ i < xs.length := by simpa using hc
    refine EvC.seq (EvC.rg (by (simp only [go_sem]) <;> rfl) (by simp) ?_)
    refine EvC.ret ⟨.inl rfl, _, (by (simp only [go_sem]) <;> rfl), ?_, rfl⟩
    simp only [go_sem]
    rw [h2, List.drop_of_length_le (by omega)]; rfl
  have hi : i < xs.length := by simpa using hc
  have he : xs[i]? = some xs[i] := List.getElem?_eq_getElem hi
  have hd : xs.drop i = xs[i] :: xs.drop (i + 1) := List.drop_eq_getElem_cons hi
  have hm : xs[i] ∈ xs := List.getElem_mem hi
  generalize xs[i] = e at he hd hm
  refine EvC.skip ?_
  refine EvC.seq ?_
  refine EvC.block ?_  -- 1
  refine EvC.seq (EvC.rg (by (simp only [go_sem]) <;> rfl) (by simp) ?_)
  apply EvC.seq
  apply EvC.tr
  · apply Tr.run
    · (simp only [go_sem, he, listC]) <;> rfl
    · simp
    apply Tr.cons
    · exact .call rfl rfl (by (simp only [go_sem]) <;> rfl) (by (simp only [go_sem]) <;> rfl) (by (simp only [go_sem]) <;> rfl) (by (simp only [go_sem, hcs]) <;> rfl) (by (simp only [go_sem]) <;> rfl) (hp e hm)
    apply Tr.done
    · (simp only [go_sem]) <;> rfl
    · simp
  refine EvC.cond (by (simp only [go_sem]) <;> rfl) (fun hc => ?_) (fun hc => ?_)
  · refine EvC.seq (EvC.rg (by (simp only [go_sem]) <;> rfl) (by simp) ?_)
    refine EvC.ret ⟨.inl rfl, _, (by (simp only [go_sem]) <;> rfl), ?_, rfl⟩
    simp only [go_sem]
    rw [h2, hd, findIdxG, if_pos hc]
  refine EvC.skip ?_
  refine EvC.rg (by (simp only [go_sem]) <;> rfl) (by exact inI64_of (by omega) (by omega)) ?_
  refine ⟨[], i + 1, rfl, (by (simp only [go_sem, hcs]) <;> rfl), ⟨by omega, ?_⟩, by omega⟩
  rw [h2, hd, findIdxG, if_neg (by simp [hc])]; rfl
/-- The rows that are made so far. -/
def lcC (r : Option (List Int)) : List AV := match r with
  | some r => [.sl false (r.map intC) .unk]
  | none => [.sl true [] .zer]
@[go_sem] theorem norefs_lc (l : List (Option (List Int))) : (l.map lcC).all AV.norefs = true := by
  simp only [List.all_eq_true, List.mem_map]
  rintro _ ⟨r, _, rfl⟩
  cases r <;> rfl
theorem after1_is (na : Bool) (a : List Int) (ca : Cp) (nl : Bool) (rs : List (Option (List Int))) (cl : Cp) (s : Nat) (b : List Int) (hs : rs[s]? = some (some b)) (hl : a.length < 1000000) :
    PureIs prog 46 [.sl na (a.map intC) ca, .ia [.sl nl (rs.map lcC) cl], .ia [.sc (.int .i64 s)]] (.sc (.bool (decide (a = b)))) := by
  refine PureIs.of (nv := 3) (hid := [4]) func46 rfl (by kernel_rfl) (by simp [ntmps46]) fun _ => ?_
  rw [ntmps46, results46]
  refine EvC.seq (EvC.rg (by (simp only [go_sem]) <;> rfl) (by simp) ?_)
  apply EvC.seq
  apply EvC.tr
  · apply Tr.run
    · (simp only [go_sem, hs, lcC, Int.toNat_natCast]) <;> rfl
    · simp
    apply Tr.cons
    · exact .call rfl rfl (by (simp only [go_sem]) <;> rfl) (by (simp only [go_sem]) <;> rfl) (by (simp only [go_sem]) <;> rfl) (by (simp only [go_sem]) <;> rfl) (by (simp only [go_sem]) <;> rfl) (equal_is na a ca false b .unk hl)
    apply Tr.done
    · (simp only [go_sem]) <;> rfl
    · simp
  refine EvC.ret ⟨.inl rfl, _, (by (simp only [go_sem]) <;> rfl), ?_, rfl⟩
  simp only [go_sem]
end Go.Avl
namespace Go.Avl
open Go Go.Proofs.Try
set_option maxRecDepth 10000
set_option linter.unusedSimpArgs false

def namesR (m : Mach) (w : List Int) : List Int := (List.range m.rows.length).map fun s => ((leastEq (fun k => runR m k w) s : Nat) : Int)
def afterA (m : Mach) (w : List Int) : AV :=
  if checkM m ≠ 0 then .tu [.sl true [] .unk, .sc (.int .i64 (checkM m))]
  else if wordErr m.ins w ≠ 0 then .tu [.sl true [] .unk, .sc (.int .i64 (wordErr m.ins w))]
  else .tu [.sl false ((nm (namesR m w)).map intC) .full, .sc (.int .i64 0)]
theorem afterA_noref (m : Mach) (w : List Int) : (afterA m w).noref = true := by unfold afterA; repeat (first | rfl | split)
theorem splitsAfter_is (m : Mach) (hr : ∀ r ∈ m.rows, r.2.length < 1000000) (nl : Bool) (w : List Int) (c : Cp) (hl : w.length < 1000000) : PureIs prog 23 [.ag m.cells, .sl nl (w.map intC) c] (afterA m w) := by
  refine PureIs.of (nv := 3) (hid := [4, 5, 6, 7, 8, 9, 10, 14, 21, 33, 34, 35]) func23 rfl (by kernel_rfl) (by simp [ntmps23]) fun _ => ?_
  rw [ntmps23, results23]
  refine EvC.seq (EvC.rg (by (simp only [go_sem, Mach.cells]) <;> rfl) (by simp) ?_)
  refine EvC.frzB 0 (by (simp only [go_sem]) <;> rfl) ?_
  refine EvC.seq ?_
  apply EvC.seq
  apply EvC.tr
  · apply Tr.run
    · (simp only [go_sem, Mach.cells]) <;> rfl
    · simp
    apply Tr.cons
    · exact .call rfl rfl (by (simp only [go_sem]) <;> rfl) (by (simp only [go_sem]) <;> rfl) (by (simp only [go_sem]) <;> rfl) (by (simp only [go_sem]) <;> rfl) (by (simp only [go_sem]) <;> rfl) (check_is m hr)
    apply Tr.done
    · (simp only [go_sem]) <;> rfl
    · simp
  refine EvC.seq (EvC.rg (by (simp only [go_sem]) <;> rfl) (by simp) ?_)
  refine EvC.cond (by (simp only [go_sem]) <;> rfl) (fun hc => ?_) (fun hc => ?_)
  · have hc : checkM m ≠ 0 := by simpa using hc
    refine EvC.seq (EvC.rg (by (simp only [go_sem]) <;> rfl) (by simp) ?_)
    refine EvC.ret ⟨.inl rfl, _, (by (simp only [go_sem]) <;> rfl), ?_, afterA_noref _ _⟩
    simp only [go_sem]
    rw [afterA, if_pos hc]
  have h1 : ¬ checkM m ≠ 0 := by simpa using hc
  clear hc
  have hv : Valid m := .of (by simpa using h1)
  have hrw := hv.rows
  refine EvC.skip ?_
  refine EvC.seq ?_
  apply EvC.seq
  apply EvC.tr
  · apply Tr.run
    · (simp only [go_sem, Mach.cells]) <;> rfl
    · simp
    apply Tr.cons
    · exact .call rfl rfl (by (simp only [go_sem]) <;> rfl) (by (simp only [go_sem]) <;> rfl) (by (simp only [go_sem]) <;> rfl) (by (simp only [go_sem]) <;> rfl) (by (simp only [go_sem]) <;> rfl) (wordCheck_is nl w c m.ins hl)
    apply Tr.done
    · (simp only [go_sem]) <;> rfl
    · simp
  refine EvC.seq (EvC.rg (by (simp only [go_sem]) <;> rfl) (by simp) ?_)
  refine EvC.cond (by (simp only [go_sem]) <;> rfl) (fun hc => ?_) (fun hc => ?_)
  · have hc : wordErr m.ins w ≠ 0 := by simpa using hc
    refine EvC.seq (EvC.rg (by (simp only [go_sem]) <;> rfl) (by simp) ?_)
    refine EvC.ret ⟨.inl rfl, _, (by (simp only [go_sem]) <;> rfl), ?_, afterA_noref _ _⟩
    simp only [go_sem]
    rw [afterA, if_neg h1, if_pos hc]
  have h2 : ¬ wordErr m.ins w ≠ 0 := by simpa using hc
  clear hc
  have h2' : wordErr m.ins w = 0 := by simpa using h2
  have hwok := wordErr_zero h2'
  have hz : ∀ n : Nat, List.replicate n [AV.sc (.int .i64 0)] = (List.replicate n (0 : Int)).map intC := fun n => by simp [intC]
  have hzn : ∀ n : Nat, List.replicate n [AV.sl true [] .zer] = (List.replicate n (none : Option (List Int))).map lcC := fun n => by simp [lcC]
  refine EvC.skip ?_
  refine EvC.seq (EvC.rg (by (simp only [go_sem, Mach.cells, Int.toNat_natCast, hzn]) <;> rfl) (by simp [room_eq]; omega) ?_)
  refine EvC.seq (EvC.rg (by (simp only [go_sem, Mach.cells, Int.toNat_natCast, hz]) <;> rfl) (by simp [room_eq]; omega) ?_)
  refine EvC.seq ?_
  refine EvC.seq (EvC.rg (by (simp only [go_sem, Mach.cells]) <;> rfl) (by simp) ?_)
  refine EvC.block ?_  -- 0
  refine EvC.loopS (σ := Nat × List (Option (List Int)) × List Int) (fun g => ⟨[(1, .sl nl (w.map intC) c), (2, .ia m.cells), (8, .rf 0 0), (9, .tl 2 m.rows.length false), (33, .sc (.int .i64 m.rows.length)), (34, .sc (.int .i64 g.1))], [], [(0, .cells [.tl 1 m.rows.length false]), (1, .arr 1 (g.2.1.map lcC) false), (2, .arr 1 (g.2.2.map intC) false)], 3⟩) (fun g => m.rows.length - g.1)
    (fun g => g.1 ≤ m.rows.length ∧ g.2.1 = (List.range g.1).map (fun k : Nat => some (runR m k w)) ++ List.replicate (m.rows.length - g.1) none ∧ g.2.2 = (List.range g.1).map (fun s => ((leastEq (fun k => runR m k w) s : Nat) : Int)) ++ List.replicate (m.rows.length - g.1) 0) [1, 2, 8, 9, 33, 34] 3 ?_ ?_
  · exact ⟨[(19, 0), (18, 1), (24, 2)], (0, List.replicate m.rows.length none, List.replicate m.rows.length 0), rfl, (by (simp only [go_sem, Mach.cells]) <;> rfl), Nat.zero_le _, rfl, rfl⟩
  rintro ⟨s, rs, ns⟩ ⟨k1, k2, k3⟩
  simp only at k1 k2 k3
  have hrl : rs.length = m.rows.length := by rw [k2]; simp; omega
  have hnl : ns.length = m.rows.length := by rw [k3]; simp; omega
  refine EvC.seq (EvC.rg (by (simp only [go_sem]) <;> rfl) (by simp) ?_)
  refine EvC.seq ?_
  refine EvC.cond (by (simp only [go_sem]) <;> rfl) (fun hc => ?_) (fun hc => ?_)
  rotate_left
  · refine EvC.exit ?_  -- 0
    obtain rfl : s = m.rows.length := by have : ¬ s < m.rows.length := by simpa using hc
                                         omega
    have hn : ns = namesR m w := by rw [k3]; simp [namesR]
    subst hn
    refine EvC.frz 2 (by (simp only [go_sem, List.length_map, hnl]) <;> rfl) ?_
    apply EvC.seq
    apply EvC.tr
    · apply Tr.run
      · (simp only [go_sem]) <;> rfl
      · simp
      apply Tr.cons
      · exact .call rfl rfl (by (simp only [go_sem]) <;> rfl) (by (simp only [go_sem]) <;> rfl) (by (simp only [go_sem]) <;> rfl) (by (simp only [go_sem]) <;> rfl) (by (simp only [go_sem]) <;> rfl) (of47_is false (namesR m w) .unk (by omega) (by omega))
      apply Tr.done
      · (simp only [go_sem]) <;> rfl
      · simp
    refine EvC.ret ⟨.inl rfl, _, (by (simp only [go_sem]) <;> rfl), ?_, afterA_noref _ _⟩
    simp only [go_sem]
    rw [afterA, if_neg h1, if_neg h2]
  have hs : s < m.rows.length := by simpa using hc
  have hr1 : m.rows.length - s = (m.rows.length - (s + 1)) + 1 := by omega
  have hrs' : rs.set s (some (runR m s w)) = (List.range (s + 1)).map (fun k : Nat => some (runR m k w)) ++ List.replicate (m.rows.length - (s + 1)) none := by
    rw [k2, hr1, List.replicate_succ]
    have := set_mid ((List.range s).map fun k : Nat => some (runR m k w)) (List.replicate (m.rows.length - (s + 1)) none) none (some (runR m s w))
    rw [List.length_map, List.length_range] at this
    rw [this, List.range_succ, List.map_append]; simp
  have hset : (rs.map lcC).set s [.sl false ((runR m s w).map intC) .unk] = (rs.set s (some (runR m s w))).map lcC := by
    rw [show [AV.sl false ((runR m s w).map intC) .unk] = lcC (some (runR m s w)) from rfl, ← List.map_set]
  have hge : rs[s]? = some none := by
    rw [k2, List.getElem?_append_right (by simp), hr1]; simp
  refine EvC.skip ?_
  refine EvC.seq ?_
  refine EvC.block ?_  -- 1
  refine EvC.seq (EvC.rg (by (simp only [go_sem]) <;> rfl) (by simp) ?_)
  apply EvC.seq
  apply EvC.drw mixed
  · apply Tr.run
    · (simp only [go_sem, Mach.cells]) <;> rfl
    · simp
    apply Tr.cons
    · exact .call rfl rfl (by (simp only [go_sem]) <;> rfl) (by (simp only [go_sem]) <;> rfl) (by (simp only [go_sem]) <;> rfl) (by (simp only [go_sem]) <;> rfl) (by (simp only [go_sem]) <;> rfl) (run38_is hv s ⟨by omega, by omega⟩ nl w c h2' hl)
    apply Tr.done
    · (simp only [go_sem, hset, hge, lcC, Int.toNat_natCast]) <;> rfl
    · simp [hrl]; omega
  · kernel_rfl
  obtain ⟨qs, hqs⟩ : ∃ qs, qs = rs.set s (some (runR m s w)) := ⟨_, rfl⟩
  rw [← hqs] at hrs' ⊢
  have hql : qs.length = m.rows.length := by rw [hqs]; simpa using hrl
  have hqi : qs[s]? = some (some (runR m s w)) := by rw [hqs]; simp [hrl, hs]
  have hI1 : inI64 ((s : Int) + 1) = true := inI64_of (by omega) (by omega)
  have ht1 : ((s : Int) + 1).toNat = s + 1 := by omega
  obtain ⟨pre, hpre⟩ : ∃ pre : List LRow, pre = (List.range (s + 1)).map fun k : Nat => (false, runR m k w) := ⟨_, rfl⟩
  have hpv : (if s + 1 = m.rows.length then qs.map lcC else (qs.map lcC).take (s + 1)) = pre.map listC := by
    have h1 : (qs.map lcC).take (s + 1) = pre.map listC := by
      rw [← List.map_take, hrs', List.take_append_of_le_length (by simp), List.take_of_length_le (by simp), hpre, List.map_map, List.map_map]
      rfl
    split
    · rename_i h
      rw [← h1, List.take_of_length_le (by simp; omega)]
    · exact h1
  obtain ⟨kk, kk1, kk2, kk3, kk4⟩ := leastEq_ex (fun k : Nat => runR m k w) s
  have hfi : findIdxG (fun r : LRow => decide (r.2 = runR m s w)) pre 0 = ((leastEq (fun k : Nat => runR m k w) s : Nat) : Int) := by
    rw [kk4, findIdxG_is (k := kk) (e := (false, runR m kk w)) (by rw [hpre, List.getElem?_map, List.getElem?_range (by omega)]; rfl) (by simpa using kk2) (fun j hj x hx => by
      rw [hpre, List.getElem?_map, List.getElem?_range (by omega)] at hx
      cases hx
      simpa using kk3 j hj)]
    simp
  have hgn : ns[s]? = some 0 := by
    rw [k3, List.getElem?_append_right (by simp), hr1]; simp
  have hsetn : ∀ y : Int, (ns.map intC).set s [.sc (.int .i64 y)] = (ns.set s y).map intC := fun y => by
    rw [show [AV.sc (.int .i64 y)] = intC y from rfl, ← List.map_set]
  apply EvC.drw mixed  -- R13
  · apply Tr.run
    · (simp only [go_sem, ht1, hql, List.length_map, Nat.sub_zero]) <;> rfl
    · simp [hI1, hql]; exact ⟨⟨by omega, fun h => by rw [h] at hrw; simp at hrw⟩, by omega⟩
    apply Tr.cons
    · refine .callD (xs := [.sl false (pre.map listC) .unk, .fn 46 [.ia [.sl false (qs.map lcC) .unk], .ia [.sc (.int .i64 s)]]]) 3 rfl rfl (by (simp only [go_sem]) <;> rfl) (by (simp only [go_sem]) <;> rfl) ?_ (by (simp only [go_sem, hql, List.length_map]) <;> rfl) (by (simp only [go_sem]) <;> rfl) (PureIs.frSc (indexL_is false pre .unk 46 [.ia [.sl false (qs.map lcC) .unk], .ia [.sc (.int .i64 s)]] rfl (fun r => decide (r.2 = runR m s w)) ?_ ?_))
      · simp only [go_sem, hpv]
      · intro e he
        rw [hpre] at he
        obtain ⟨k, _, rfl⟩ := List.mem_map.1 he
        exact after1_is false (runR m k w) .unk false qs .unk s (runR m s w) hqi (by rw [runR_len]; exact hl)
      · rw [hpre]; simp; omega
    apply Tr.done
    · (simp only [go_sem, hnl, List.length_map, Int.toNat_natCast, hgn, hsetn, intC]) <;> rfl
    · simp [hnl]; try omega
  · kernel_rfl
  refine EvC.rg (by (simp only [go_sem]) <;> rfl) (by exact inI64_of (by omega) (by omega)) ?_
  refine ⟨[(0, 0), (1, 1), (2, 2)], (s + 1, qs, ns.set s ((leastEq (fun k : Nat => runR m k w) s : Nat) : Int)), rfl, (by (simp only [go_sem, hfi, Mach.cells]) <;> rfl), ⟨by simp only; omega, hrs', ?_⟩, by simp only; omega⟩
  simp only
  rw [k3, hr1, List.replicate_succ]
  have := set_mid ((List.range s).map fun s => ((leastEq (fun k : Nat => runR m k w) s : Nat) : Int)) (List.replicate (m.rows.length - (s + 1)) 0) 0 ((leastEq (fun k : Nat => runR m k w) s : Nat) : Int)
  rw [List.length_map, List.length_range] at this
  rw [this, List.range_succ, List.map_append]; simp
end Go.Avl
namespace Go.Avl
open Go Go.Proofs.Try
set_option maxRecDepth 10000
set_option linter.unusedSimpArgs false
attribute [go_sem] List.append_eq

def m0 : Mach := ⟨2, 2, false, [(false, [(1, 0), (0, 0)]), (false, [(2, 0), (0, 0)]), (false, [(2, 1), (1, 0)])]⟩
def i1 (n : Int) : AV := .sc (.int .i64 n)
def m0A : List AV := [.sc (.int .i64 2), .sc (.int .i64 2), .sl false [[.sl false [[.sc (.int .i64 1), .sc (.int .i64 0)], [.sc (.int .i64 0), .sc (.int .i64 0)]] .full], [.sl false [[.sc (.int .i64 2), .sc (.int .i64 0)], [.sc (.int .i64 0), .sc (.int .i64 0)]] .full], [.sl false [[.sc (.int .i64 2), .sc (.int .i64 1)], [.sc (.int .i64 1), .sc (.int .i64 0)]] .full]] .full]
theorem m0_unk : AV.unks m0A = m0.cells := rfl
theorem m0_small : ∀ r ∈ m0.rows, r.2.length < 1000000 := by decide
theorem sep0_is (s t : Int) (b : List Int) (h : stateErr m0 [s, t] = 0 ∧ sepW m0 s.toNat t.toNat = b) : PureIs prog 11 [.ag m0A, .sc (.int .i64 s), .sc (.int .i64 t)] (.tu [.sl b.isEmpty (b.map intC) .full, .sc (.bool (decide (0 < (b.length : Int)))), .sc (.int .i64 0)]) := by
  refine PureIs.weak ?_
  have := separate_is m0 m0_small s t
  rw [separateA, if_neg (by simp [h.1]), h.2] at this
  exact this
theorem sep0e_is (s t : Int) (h : stateErr m0 [s, t] = 1) : PureIs prog 11 [.ag m0A, .sc (.int .i64 s), .sc (.int .i64 t)] (.tu [.sl true [] .unk, .sc (.bool false), .sc (.int .i64 1)]) := by
  refine PureIs.weak ?_
  have := separate_is m0 m0_small s t
  rw [separateA, if_pos (by simp [h]), h] at this
  exact this
theorem seps0_is (w : List Int) (c : Cp) (s t : Int) (b : Bool) (h : stateErr m0 [s, t] = 0 ∧ wordErr m0.ins w = 0 ∧ (!decide (runR m0 s w = runR m0 t w)) = b) (hl : w.length < 1000000) : PureIs prog 18 [.ag m0A, .sl false (w.map intC) c, .sc (.int .i64 s), .sc (.int .i64 t)] (.tu [.sc (.bool b), .sc (.int .i64 0)]) := by
  refine PureIs.weak ?_
  have := separates_is m0 m0_small false w .unk hl s t
  rw [sepsA, if_neg (by simp [h.1]), if_neg (by simp [h.2.1]), h.2.2] at this
  have hw : AV.unkss (w.map intC) = w.map intC := unkss_map intC (fun x => rfl) w
  simpa [AV.unk, AV.unks, hw, m0_unk] using this
theorem height0_is : PureIs prog 21 [.ag m0A] (.tu [.sc (.int .i64 2), .sc (.int .i64 0)]) := by
  refine PureIs.weak ?_
  have := height_is m0 m0_small
  rw [heightA, if_neg (by decide +kernel), show maxLen (tblL m0) = 2 by decide +kernel] at this
  exact this
theorem after0_is (w : List Int) (c : Cp) (b : List Int) (h : wordErr m0.ins w = 0 ∧ nm (namesR m0 w) = b) (hl : w.length < 1000000) : PureIs prog 23 [.ag m0A, .sl false (w.map intC) c] (.tu [.sl false (b.map intC) .full, .sc (.int .i64 0)]) := by
  refine PureIs.weak ?_
  have := splitsAfter_is m0 m0_small false w .unk hl
  rw [afterA, if_neg (by decide +kernel), if_neg (by simp [h.1]), h.2] at this
  have hw : AV.unkss (w.map intC) = w.map intC := unkss_map intC (fun x => rfl) w
  simpa [AV.unk, AV.unks, hw, m0_unk] using this
theorem after0e_is (w : List Int) (c : Cp) (h : wordErr m0.ins w = 1) (hl : w.length < 1000000) : PureIs prog 23 [.ag m0A, .sl false (w.map intC) c] (.tu [.sl true [] .unk, .sc (.int .i64 1)]) := by
  refine PureIs.weak ?_
  have := splitsAfter_is m0 m0_small false w .unk hl
  rw [afterA, if_neg (by decide +kernel), if_pos (by simp [h]), h] at this
  have hw : AV.unkss (w.map intC) = w.map intC := unkss_map intC (fun x => rfl) w
  simpa [AV.unk, AV.unks, hw, m0_unk] using this
theorem list0_is (na : Bool) (a : List Int) (nb : Bool) (cb : Cp) (hl : a.length < 1000000) : PureIs prog 14 [.sl na (a.map intC) .full, .sc (.int .i64 0), .sl nb (a.map intC) cb, .sc (.int .i64 0)] (.sc (.bool true)) := by
  simpa using list_is na a nb a cb 0 0 hl

set_option maxHeartbeats 4000000 in
theorem lives_is : PureIs prog 15 [] (.sc (.bool true)) := by
  refine PureIs.of (nv := 25) (hid := [27, 29]) func15 rfl (by kernel_rfl) (by simp [ntmps15]) fun _ => ?_
  rw [ntmps15, results15]
  refine EvC.seq (EvC.rg (by (simp only [go_sem]) <;> rfl) (by simp) ?_)
  apply EvC.seq
  apply EvC.tr
  · apply Tr.run
    · (simp only [go_sem]) <;> rfl
    · simp
    apply Tr.cons
    · exact .call rfl rfl (by (simp only [go_sem]) <;> rfl) (by (simp only [go_sem]) <;> rfl) (by (simp only [go_sem]) <;> rfl) (by (simp only [go_sem]) <;> rfl) (by (simp only [go_sem]) <;> rfl) (edge_is 1 0)
    apply Tr.run
    · (simp only [go_sem]) <;> rfl
    · simp
    apply Tr.cons
    · exact .call rfl rfl (by (simp only [go_sem]) <;> rfl) (by (simp only [go_sem]) <;> rfl) (by (simp only [go_sem]) <;> rfl) (by (simp only [go_sem]) <;> rfl) (by (simp only [go_sem]) <;> rfl) (edge_is 0 0)
    apply Tr.run
    · (simp only [go_sem]) <;> rfl
    · simp
    apply Tr.cons
    · exact .call rfl rfl (by (simp only [go_sem]) <;> rfl) (by (simp only [go_sem]) <;> rfl) (by (simp only [go_sem]) <;> rfl) (by (simp only [go_sem]) <;> rfl) (by (simp only [go_sem]) <;> rfl) (edge_is 2 0)
    apply Tr.run
    · (simp only [go_sem]) <;> rfl
    · simp
    apply Tr.cons
    · exact .call rfl rfl (by (simp only [go_sem]) <;> rfl) (by (simp only [go_sem]) <;> rfl) (by (simp only [go_sem]) <;> rfl) (by (simp only [go_sem]) <;> rfl) (by (simp only [go_sem]) <;> rfl) (edge_is 0 0)
    apply Tr.run
    · (simp only [go_sem]) <;> rfl
    · simp
    apply Tr.cons
    · exact .call rfl rfl (by (simp only [go_sem]) <;> rfl) (by (simp only [go_sem]) <;> rfl) (by (simp only [go_sem]) <;> rfl) (by (simp only [go_sem]) <;> rfl) (by (simp only [go_sem]) <;> rfl) (edge_is 2 1)
    apply Tr.run
    · (simp only [go_sem]) <;> rfl
    · simp
    apply Tr.cons
    · exact .call rfl rfl (by (simp only [go_sem]) <;> rfl) (by (simp only [go_sem]) <;> rfl) (by (simp only [go_sem]) <;> rfl) (by (simp only [go_sem]) <;> rfl) (by (simp only [go_sem]) <;> rfl) (edge_is 1 0)
    apply Tr.done
    · (simp only [go_sem]) <;> rfl
    · simp
  apply EvC.seq
  apply EvC.tr
  · apply Tr.run
    · (simp only [go_sem]) <;> rfl
    · simp
    apply Tr.cons
    · exact .call rfl rfl (by (simp only [go_sem]) <;> rfl) (by (simp only [go_sem]) <;> rfl) (by (simp only [go_sem]) <;> rfl) (by (simp only [go_sem]) <;> rfl) (by (simp only [go_sem]) <;> rfl) (by simpa [m0A, intC] using (sep0_is 0 2 [0] (by decide +kernel)))
    apply Tr.done
    · (simp only [go_sem]) <;> rfl
    · simp
  apply EvC.seq
  apply EvC.tr
  · apply Tr.run
    · (simp only [go_sem]) <;> rfl
    · simp
    apply Tr.cons
    · exact .call rfl rfl (by (simp only [go_sem]) <;> rfl) (by (simp only [go_sem]) <;> rfl) (by (simp only [go_sem]) <;> rfl) (by (simp only [go_sem]) <;> rfl) (by (simp only [go_sem]) <;> rfl) (by simpa [m0A, intC] using (sep0_is 0 1 [0, 0] (by decide +kernel)))
    apply Tr.done
    · (simp only [go_sem]) <;> rfl
    · simp
  apply EvC.seq
  apply EvC.tr
  · apply Tr.run
    · (simp only [go_sem]) <;> rfl
    · simp
    apply Tr.cons
    · exact .call rfl rfl (by (simp only [go_sem]) <;> rfl) (by (simp only [go_sem]) <;> rfl) (by (simp only [go_sem]) <;> rfl) (by (simp only [go_sem]) <;> rfl) (by (simp only [go_sem]) <;> rfl) (by simpa [m0A, intC] using (sep0_is 1 1 [] (by decide +kernel)))
    apply Tr.done
    · (simp only [go_sem]) <;> rfl
    · simp
  apply EvC.seq
  apply EvC.tr
  · apply Tr.run
    · (simp only [go_sem]) <;> rfl
    · simp
    apply Tr.cons
    · exact .call rfl rfl (by (simp only [go_sem]) <;> rfl) (by (simp only [go_sem]) <;> rfl) (by (simp only [go_sem]) <;> rfl) (by (simp only [go_sem]) <;> rfl) (by (simp only [go_sem]) <;> rfl) (by simpa [m0A, intC] using (seps0_is [1, 0] .full 0 2 false (by decide +kernel) (by simp)))
    apply Tr.done
    · (simp only [go_sem]) <;> rfl
    · simp
  apply EvC.seq
  apply EvC.tr
  · apply Tr.run
    · (simp only [go_sem]) <;> rfl
    · simp
    apply Tr.cons
    · exact .call rfl rfl (by (simp only [go_sem]) <;> rfl) (by (simp only [go_sem]) <;> rfl) (by (simp only [go_sem]) <;> rfl) (by (simp only [go_sem]) <;> rfl) (by (simp only [go_sem]) <;> rfl) (by simpa [m0A, intC] using (seps0_is [1, 1, 0] .full 0 2 false (by decide +kernel) (by simp)))
    apply Tr.done
    · (simp only [go_sem]) <;> rfl
    · simp
  apply EvC.seq
  apply EvC.tr
  · apply Tr.run
    · (simp only [go_sem]) <;> rfl
    · simp
    apply Tr.cons
    · exact .call rfl rfl (by (simp only [go_sem]) <;> rfl) (by (simp only [go_sem]) <;> rfl) (by (simp only [go_sem]) <;> rfl) (by (simp only [go_sem]) <;> rfl) (by (simp only [go_sem]) <;> rfl) (by simpa [m0A, intC] using (seps0_is [1, 0, 0] .full 0 2 true (by decide +kernel) (by simp)))
    apply Tr.done
    · (simp only [go_sem]) <;> rfl
    · simp
  apply EvC.seq
  apply EvC.tr
  · apply Tr.run
    · (simp only [go_sem]) <;> rfl
    · simp
    apply Tr.cons
    · exact .call rfl rfl (by (simp only [go_sem]) <;> rfl) (by (simp only [go_sem]) <;> rfl) (by (simp only [go_sem]) <;> rfl) (by (simp only [go_sem]) <;> rfl) (by (simp only [go_sem]) <;> rfl) (by simpa [m0A, intC] using (height0_is))
    apply Tr.done
    · (simp only [go_sem]) <;> rfl
    · simp
  apply EvC.seq
  apply EvC.tr
  · apply Tr.run
    · (simp only [go_sem]) <;> rfl
    · simp
    apply Tr.cons
    · exact .call rfl rfl (by (simp only [go_sem]) <;> rfl) (by (simp only [go_sem]) <;> rfl) (by (simp only [go_sem]) <;> rfl) (by (simp only [go_sem]) <;> rfl) (by (simp only [go_sem]) <;> rfl) (by simpa [m0A, intC] using (after0_is [0] .full [0, 0, 1] (by decide +kernel) (by simp)))
    apply Tr.done
    · (simp only [go_sem]) <;> rfl
    · simp
  apply EvC.seq
  apply EvC.tr
  · apply Tr.run
    · (simp only [go_sem]) <;> rfl
    · simp
    apply Tr.cons
    · exact .call rfl rfl (by (simp only [go_sem]) <;> rfl) (by (simp only [go_sem]) <;> rfl) (by (simp only [go_sem]) <;> rfl) (by (simp only [go_sem]) <;> rfl) (by (simp only [go_sem]) <;> rfl) (by simpa [m0A, intC] using (after0_is [0, 0] .full [0, 1, 2] (by decide +kernel) (by simp)))
    apply Tr.done
    · (simp only [go_sem]) <;> rfl
    · simp
  apply EvC.seq
  apply EvC.tr
  · apply Tr.run
    · (simp only [go_sem]) <;> rfl
    · simp
    apply Tr.cons
    · exact .call rfl rfl (by (simp only [go_sem]) <;> rfl) (by (simp only [go_sem]) <;> rfl) (by (simp only [go_sem]) <;> rfl) (by (simp only [go_sem]) <;> rfl) (by (simp only [go_sem]) <;> rfl) (by simpa [m0A, intC] using (after0_is [1] .full [0, 0, 0] (by decide +kernel) (by simp)))
    apply Tr.done
    · (simp only [go_sem]) <;> rfl
    · simp
  apply EvC.seq
  apply EvC.tr
  · apply Tr.run
    · (simp only [go_sem]) <;> rfl
    · simp
    apply Tr.cons
    · exact .call rfl rfl (by (simp only [go_sem]) <;> rfl) (by (simp only [go_sem]) <;> rfl) (by (simp only [go_sem]) <;> rfl) (by (simp only [go_sem]) <;> rfl) (by (simp only [go_sem]) <;> rfl) (by simpa [m0A, intC] using (sep0e_is 0 3 (by decide +kernel)))
    apply Tr.done
    · (simp only [go_sem]) <;> rfl
    · simp
  apply EvC.seq
  apply EvC.tr
  · apply Tr.run
    · (simp only [go_sem]) <;> rfl
    · simp
    apply Tr.cons
    · exact .call rfl rfl (by (simp only [go_sem]) <;> rfl) (by (simp only [go_sem]) <;> rfl) (by (simp only [go_sem]) <;> rfl) (by (simp only [go_sem]) <;> rfl) (by (simp only [go_sem]) <;> rfl) (by simpa [m0A, intC] using (after0e_is [2] .full (by decide +kernel) (by simp)))
    apply Tr.done
    · (simp only [go_sem]) <;> rfl
    · simp
  apply EvC.seq
  apply EvC.tr
  · apply Tr.run
    · (simp only [go_sem]) <;> rfl
    · simp
    apply Tr.cons
    · exact .call rfl rfl (by (simp only [go_sem]) <;> rfl) (by (simp only [go_sem]) <;> rfl) (by (simp only [go_sem]) <;> rfl) (by (simp only [go_sem]) <;> rfl) (by (simp only [go_sem]) <;> rfl) (by simpa [intC] using list0_is false [0] false .full (by simp))
    apply Tr.run
    · (simp only [go_sem]) <;> rfl
    · simp
    apply Tr.cons
    · exact .callG rfl rfl (by (simp only [go_sem]) <;> rfl) rfl (by (simp only [go_sem]) <;> rfl) (by (simp only [go_sem]) <;> rfl) (by (simp only [go_sem]) <;> rfl) (by (simp only [go_sem]) <;> rfl) (by (simp only [go_sem]) <;> rfl) (by simpa [intC] using list0_is false [0, 0] false .full (by simp))
    apply Tr.run
    · (simp only [go_sem]) <;> rfl
    · simp
    apply Tr.cons
    · exact .callG rfl rfl (by (simp only [go_sem]) <;> rfl) rfl (by (simp only [go_sem]) <;> rfl) (by (simp only [go_sem]) <;> rfl) (by (simp only [go_sem]) <;> rfl) (by (simp only [go_sem]) <;> rfl) (by (simp only [go_sem]) <;> rfl) (by simpa [intC] using list0_is true [] true .zer (by simp))
    apply Tr.run
    · (simp only [go_sem]) <;> rfl
    · simp
    apply Tr.cons
    · exact .callG rfl rfl (by (simp only [go_sem]) <;> rfl) rfl (by (simp only [go_sem]) <;> rfl) (by (simp only [go_sem]) <;> rfl) (by (simp only [go_sem]) <;> rfl) (by (simp only [go_sem]) <;> rfl) (by (simp only [go_sem]) <;> rfl) (by simpa [intC] using list0_is false [0, 0, 1] false .full (by simp))
    apply Tr.run
    · (simp only [go_sem]) <;> rfl
    · simp
    apply Tr.cons
    · exact .callG rfl rfl (by (simp only [go_sem]) <;> rfl) rfl (by (simp only [go_sem]) <;> rfl) (by (simp only [go_sem]) <;> rfl) (by (simp only [go_sem]) <;> rfl) (by (simp only [go_sem]) <;> rfl) (by (simp only [go_sem]) <;> rfl) (by simpa [intC] using list0_is false [0, 1, 2] false .full (by simp))
    apply Tr.run
    · (simp only [go_sem]) <;> rfl
    · simp
    apply Tr.cons
    · exact .callG rfl rfl (by (simp only [go_sem]) <;> rfl) rfl (by (simp only [go_sem]) <;> rfl) (by (simp only [go_sem]) <;> rfl) (by (simp only [go_sem]) <;> rfl) (by (simp only [go_sem]) <;> rfl) (by (simp only [go_sem]) <;> rfl) (by simpa [intC] using list0_is false [0, 0, 0] false .full (by simp))
    apply Tr.done
    · (simp only [go_sem]) <;> rfl
    · simp
  refine EvC.ret ⟨.inl rfl, _, (by (simp only [go_sem]) <;> rfl), ?_, rfl⟩
  simp only [go_sem]
end Go.Avl
namespace Go.Avl
open Go Go.Proofs.Try
set_option maxRecDepth 10000
set_option linter.unusedSimpArgs false

theorem LM.valid {x : LM} (h : x.Ok) : Valid x.mach := by
  obtain ⟨b1, b2, b3, b4, b5, b6, -, -⟩ := LM.bounds h
  have hl : x.mach.rows.length = x.n := by simp [LM.mach]
  refine ⟨⟨by show (1 : Int) ≤ x.i; omega, by show (x.i : Int) ≤ 16; omega⟩, ⟨b5, by show x.o ≤ 16; omega⟩, by rw [hl]; omega, fun r hr => ?_⟩
  rw [hl]
  simp only [LM.mach, List.mem_map, List.mem_range] at hr ⊢
  obtain ⟨s, hs, rfl⟩ := hr
  refine ⟨by simp [LM.row], fun e he => ?_⟩
  simp only [LM.row, List.mem_map, List.mem_range] at he
  obtain ⟨i, hi, rfl⟩ := he
  obtain ⟨v1, v2⟩ := LM.v_ok h s i
  unfold LM.edge
  split
  · simp [fitsR]
  · have h1 := Int.emod_nonneg (x.v s i / 4) (b := x.n) (by omega)
    have h2 := Int.emod_lt_of_pos (x.v s i / 4) (b := x.n) (by omega)
    have h3 := Int.emod_nonneg (x.v s i / 4 / x.n) (b := x.o) (by omega)
    have h4 := Int.emod_lt_of_pos (x.v s i / 4 / x.n) (b := x.o) (by omega)
    simp [fitsR, h1, h2, h3, h4]
theorem wOf_ok {l : List Int} {n : Int} (hn : 1 ≤ n) : ∀ a ∈ wOf l n, 0 ≤ a ∧ a < n := by
  intro a ha
  simp only [wOf, List.mem_map] at ha
  obtain ⟨y, -, rfl⟩ := ha
  exact ⟨Int.emod_nonneg _ (by omega), Int.emod_lt_of_pos _ (by omega)⟩
theorem wOf_len (l : List Int) (n : Int) : (wOf l n).length ≤ 12 := by simp [wOf]; omega
theorem runR_prefix (m : Mach) : ∀ (w v : List Int) (s t : Int), runR m s (w ++ v) = runR m t (w ++ v) → runR m s w = runR m t w
  | [], _, _, _, _ => rfl
  | a :: w, v, s, t, h => by
    simp only [List.cons_append, runR, List.cons.injEq] at h ⊢
    exact ⟨h.1, runR_prefix m w v _ _ h.2⟩
theorem separates_ok {m : Mach} (hv : Valid m) (w : List Int) (hw : ∀ a ∈ w, 0 ≤ a ∧ a < m.ins) (hl : w.length ≤ 256) (s t : Nat) (hs : s < m.rows.length) (ht : t < m.rows.length) {b : Bool} (hb : (!decide (runR m s w = runR m t w)) = b) :
    PureIs prog 18 [.ag m.cells, .sl w.isEmpty (w.map intC) .unk, .sc (.int .i64 s), .sc (.int .i64 t)] (.tu [.sc (.bool b), .sc (.int .i64 0)]) := by
  have := separates_is m hv.small w.isEmpty w .unk (by omega) s t
  rw [sepsA, if_neg (by rw [stateErr_of hv (by simp; omega)]; simp), if_neg (by rw [wordErr_of hv.ins hl hw]; simp), hb] at this
  exact this
theorem splits_ok {m : Mach} (hv : Valid m) (w : List Int) (hw : ∀ a ∈ w, 0 ≤ a ∧ a < m.ins) (hl : w.length ≤ 256) (s t : Nat) (hs : s < m.rows.length) (ht : t < m.rows.length) {b : Bool} (hb : (!decide (runR m s w = runR m t w)) = b) :
    PureIs prog 19 [.ag m.cells, .sl w.isEmpty (w.map intC) .unk, .sc (.int .i64 s), .sc (.int .i64 t)] (.sc (.int .i64 (if b = true then 1 else 0))) := by
  have := splits_is hv s t (by omega) (by omega) w.isEmpty w .unk hw (by omega)
  subst hb
  by_cases h : runR m s w = runR m t w
  · rw [if_pos h] at this; simpa [h] using this
  · rw [if_neg h] at this; simpa [h] using this

set_option maxHeartbeats 4000000 in
theorem splitsSeparates_is {x : LM} (hx : x.Ok) (na nb : Bool) (a b : List Int) (ca cb : Cp) (ha : ∀ e ∈ a, 0 ≤ e ∧ e < 256) (hb : ∀ e ∈ b, 0 ≤ e ∧ e < 256) (p q r : Int) (hp : 0 ≤ p ∧ p < 256) (hq : 0 ≤ q ∧ q < 256) (hr : 0 ≤ r ∧ r < 256) :
    PureIs prog 4 [.ag x.cells, .ag [.sl na (a.map u8C) ca, .sl nb (b.map u8C) cb], .ag [.sc (.int .u8 p), .sc (.int .u8 q), .sc (.int .u8 r)]] (.sc (.bool true)) := by
  obtain ⟨b1, b2, b3, b4, b5, b6, -, -⟩ := LM.bounds hx
  have hv := LM.valid hx
  have hn : x.mach.rows.length = x.n := by simp [LM.mach]
  have hin : x.mach.ins = x.i := rfl
  obtain ⟨m, hm⟩ : ∃ m, m = x.mach := ⟨_, rfl⟩
  have hmo := mOf_is hx
  rw [← hm] at hv hn hin hmo
  refine PureIs.of (nv := 22) (hid := []) func4 rfl (by kernel_rfl) (by simp [ntmps4]) fun _ => ?_
  rw [ntmps4, results4]
  refine EvC.seq (EvC.rg (by (simp only [go_sem, LM.cells]) <;> rfl) (by simp) ?_)
  apply EvC.seq
  apply EvC.tr
  · apply Tr.run
    · (simp only [go_sem, LM.cells]) <;> rfl
    · simp
    apply Tr.cons
    · exact .call rfl rfl (by (simp only [go_sem]) <;> rfl) (by (simp only [go_sem]) <;> rfl) (by (simp only [go_sem]) <;> rfl) (by (simp only [go_sem]) <;> rfl) (by (simp only [go_sem]) <;> rfl) (hmo)
    apply Tr.done
    · (simp only [go_sem, Mach.cells]) <;> rfl
    · simp
  have hm1 : 1 ≤ m.ins := by omega
  apply EvC.seq
  apply EvC.tr
  · apply Tr.run
    · (simp only [go_sem]) <;> rfl
    · simp
    apply Tr.cons
    · exact .call rfl rfl (by (simp only [go_sem]) <;> rfl) (by (simp only [go_sem]) <;> rfl) (by (simp only [go_sem]) <;> rfl) (by (simp only [go_sem]) <;> rfl) (by (simp only [go_sem]) <;> rfl) (wOf_is na a ca m.ins hm1 ha)
    apply Tr.done
    · (simp only [go_sem]) <;> rfl
    · simp
  apply EvC.seq
  apply EvC.tr
  · apply Tr.run
    · (simp only [go_sem]) <;> rfl
    · simp
    apply Tr.cons
    · exact .call rfl rfl (by (simp only [go_sem]) <;> rfl) (by (simp only [go_sem]) <;> rfl) (by (simp only [go_sem]) <;> rfl) (by (simp only [go_sem]) <;> rfl) (by (simp only [go_sem]) <;> rfl) (wOf_is nb b cb m.ins hm1 hb)
    apply Tr.run
    · (simp only [go_sem]) <;> rfl
    · simp
    apply Tr.cons
    · exact .call rfl rfl (by (simp only [go_sem]) <;> rfl) (by (simp only [go_sem]) <;> rfl) (by (simp only [go_sem]) <;> rfl) (by (simp only [go_sem]) <;> rfl) (by (simp only [go_sem]) <;> rfl) (join_is (wOf a m.ins).isEmpty (wOf a m.ins) .unk (wOf b m.ins).isEmpty (wOf b m.ins) .unk (by have := wOf_len a m.ins; omega) (by have := wOf_len b m.ins; omega))
    apply Tr.done
    · (simp only [go_sem]) <;> rfl
    · simp
  obtain ⟨w, hw⟩ : ∃ w, w = wOf a m.ins := ⟨_, rfl⟩
  obtain ⟨v, hvv⟩ : ∃ v, v = wOf b m.ins := ⟨_, rfl⟩
  rw [← hw, ← hvv]
  refine EvC.seq (EvC.rg (by (simp only [go_sem]) <;> rfl) (by simp) ?_)
  obtain ⟨s, hs⟩ : ∃ s : Nat, p % m.rows.length = (s : Int) := ⟨(p % m.rows.length).toNat, by have := Int.emod_nonneg p (b := m.rows.length) (by omega); omega⟩
  obtain ⟨t, ht⟩ : ∃ t : Nat, q % m.rows.length = (t : Int) := ⟨(q % m.rows.length).toNat, by have := Int.emod_nonneg q (b := m.rows.length) (by omega); omega⟩
  obtain ⟨u, hu⟩ : ∃ u : Nat, r % m.rows.length = (u : Int) := ⟨(r % m.rows.length).toNat, by have := Int.emod_nonneg r (b := m.rows.length) (by omega); omega⟩
  have hs' : s < m.rows.length := by have := Int.emod_lt_of_pos p (b := m.rows.length) (by omega); omega
  have ht' : t < m.rows.length := by have := Int.emod_lt_of_pos q (b := m.rows.length) (by omega); omega
  have hu' : u < m.rows.length := by have := Int.emod_lt_of_pos r (b := m.rows.length) (by omega); omega
  have hIp : inI64 p = true := inI64_of (by omega) (by omega)
  have hIq : inI64 q = true := inI64_of (by omega) (by omega)
  have hIr : inI64 r = true := inI64_of (by omega) (by omega)
  apply EvC.seq
  apply EvC.drd mixed
  · (simp only [go_sem, hs, ht, hu]) <;> rfl
  · simp [hIp, hIq, hIr]; omega
  · kernel_rfl
  have hwl : w.length ≤ 12 := by rw [hw]; exact wOf_len _ _
  have hvl : v.length ≤ 12 := by rw [hvv]; exact wOf_len _ _
  have hwo : ∀ e ∈ w, 0 ≤ e ∧ e < m.ins := by rw [hw]; exact wOf_ok hm1
  have hvo : ∀ e ∈ v, 0 ≤ e ∧ e < m.ins := by rw [hvv]; exact wOf_ok hm1
  have hwvo : ∀ e ∈ w ++ v, 0 ≤ e ∧ e < m.ins := fun e he => (List.mem_append.1 he).elim (hwo e) (hvo e)
  obtain ⟨c1, hc1⟩ : ∃ c1, (!decide (runR m s w = runR m t w)) = c1 := ⟨_, rfl⟩
  obtain ⟨c2, hc2⟩ : ∃ c2, (!decide (runR m s (w ++ v) = runR m t (w ++ v))) = c2 := ⟨_, rfl⟩
  obtain ⟨c3, hc3⟩ : ∃ c3, (!decide (runR m s w = runR m u w)) = c3 := ⟨_, rfl⟩
  obtain ⟨c4, hc4⟩ : ∃ c4, (!decide (runR m u w = runR m t w)) = c4 := ⟨_, rfl⟩
  have hpre : c1 = true → c2 = true := by
    rw [← hc1, ← hc2]
    simp only [Bool.not_eq_true', decide_eq_false_iff_not]
    exact fun h h' => h (runR_prefix m w v _ _ h')
  have htri : c1 = true → c3 = true ∨ c4 = true := by
    rw [← hc1, ← hc3, ← hc4]
    simp only [Bool.not_eq_true', decide_eq_false_iff_not]
    by_cases h3 : runR m s w = runR m u w
    · rw [h3]; exact fun h => Or.inr h
    · exact fun _ => Or.inl h3
  apply EvC.seq
  apply EvC.tr
  · apply Tr.run
    · (simp only [go_sem, Mach.cells]) <;> rfl
    · simp
    apply Tr.cons
    · exact .call rfl rfl (by (simp only [go_sem]) <;> rfl) (by (simp only [go_sem]) <;> rfl) (by (simp only [go_sem]) <;> rfl) (by (simp only [go_sem]) <;> rfl) (by (simp only [go_sem]) <;> rfl) (separates_ok hv w hwo (by omega) s t hs' ht' hc1)
    apply Tr.done
    · (simp only [go_sem]) <;> rfl
    · simp
  apply EvC.seq
  apply EvC.tr
  · apply Tr.run
    · (simp only [go_sem, Mach.cells]) <;> rfl
    · simp
    apply Tr.cons
    · exact .call rfl rfl (by (simp only [go_sem]) <;> rfl) (by (simp only [go_sem]) <;> rfl) (by (simp only [go_sem]) <;> rfl) (by (simp only [go_sem]) <;> rfl) (by (simp only [go_sem]) <;> rfl) (separates_ok hv (w ++ v) hwvo (by simp; omega) s t hs' ht' hc2)
    apply Tr.done
    · (simp only [go_sem]) <;> rfl
    · simp
  apply EvC.seq
  apply EvC.tr
  · apply Tr.run
    · (simp only [go_sem, Mach.cells]) <;> rfl
    · simp
    apply Tr.cons
    · exact .call rfl rfl (by (simp only [go_sem]) <;> rfl) (by (simp only [go_sem]) <;> rfl) (by (simp only [go_sem]) <;> rfl) (by (simp only [go_sem]) <;> rfl) (by (simp only [go_sem]) <;> rfl) (separates_ok hv w hwo (by omega) s u hs' hu' hc3)
    apply Tr.done
    · (simp only [go_sem]) <;> rfl
    · simp
  apply EvC.seq
  apply EvC.tr
  · apply Tr.run
    · (simp only [go_sem, Mach.cells]) <;> rfl
    · simp
    apply Tr.cons
    · exact .call rfl rfl (by (simp only [go_sem]) <;> rfl) (by (simp only [go_sem]) <;> rfl) (by (simp only [go_sem]) <;> rfl) (by (simp only [go_sem]) <;> rfl) (by (simp only [go_sem]) <;> rfl) (separates_ok hv w hwo (by omega) u t hu' ht' hc4)
    apply Tr.done
    · (simp only [go_sem]) <;> rfl
    · simp
  have hsp := splits_ok hv w hwo (by omega) s t hs' ht' hc1
  have hcase : c1 = false ∨ (c1 = true ∧ c2 = true ∧ c3 = true) ∨ (c1 = true ∧ c2 = true ∧ c3 = false ∧ c4 = true) := by
    cases c1 <;> cases c2 <;> cases c3 <;> cases c4 <;> simp_all
  clear hc1 hc2 hc3 hc4 hpre htri
  rcases hcase with rfl | ⟨rfl, rfl, rfl⟩ | ⟨rfl, rfl, rfl, rfl⟩
  · simp only [Bool.false_eq_true, if_false] at hsp
    apply EvC.seq
    apply EvC.tr
    · apply Tr.run
      · (simp only [go_sem, Mach.cells, decide_true]) <;> rfl
      · simp
      apply Tr.cons
      · exact .callG rfl rfl (by (simp only [go_sem]) <;> rfl) rfl (by (simp only [go_sem]) <;> rfl) (by (simp only [go_sem]) <;> rfl) (by (simp only [go_sem]) <;> rfl) (by (simp only [go_sem]) <;> rfl) (by (simp only [go_sem]) <;> rfl) (hsp)
      apply Tr.run
      · (simp only [go_sem, Mach.cells, decide_true]) <;> rfl
      · simp
      apply Tr.cons
      · exact .callG rfl rfl (by (simp only [go_sem]) <;> rfl) rfl (by (simp only [go_sem]) <;> rfl) (by (simp only [go_sem]) <;> rfl) (by (simp only [go_sem]) <;> rfl) (by (simp only [go_sem]) <;> rfl) (by (simp only [go_sem]) <;> rfl) (lives_is)
      apply Tr.done
      · (simp only [go_sem]) <;> rfl
      · simp
    refine EvC.ret ⟨.inl rfl, _, (by (simp only [go_sem]) <;> rfl), ?_, rfl⟩
    simp only [go_sem]
    rfl
  · simp only [if_true] at hsp
    apply EvC.seq
    apply EvC.tr
    · apply Tr.run
      · (simp only [go_sem, Mach.cells, decide_true]) <;> rfl
      · simp
      apply Tr.cons
      · exact .callG rfl rfl (by (simp only [go_sem]) <;> rfl) rfl (by (simp only [go_sem]) <;> rfl) (by (simp only [go_sem]) <;> rfl) (by (simp only [go_sem]) <;> rfl) (by (simp only [go_sem]) <;> rfl) (by (simp only [go_sem]) <;> rfl) (hsp)
      apply Tr.run
      · (simp only [go_sem, Mach.cells, decide_true]) <;> rfl
      · simp
      apply Tr.cons
      · exact .callG rfl rfl (by (simp only [go_sem]) <;> rfl) rfl (by (simp only [go_sem]) <;> rfl) (by (simp only [go_sem]) <;> rfl) (by (simp only [go_sem]) <;> rfl) (by (simp only [go_sem]) <;> rfl) (by (simp only [go_sem]) <;> rfl) (lives_is)
      apply Tr.done
      · (simp only [go_sem]) <;> rfl
      · simp
    refine EvC.ret ⟨.inl rfl, _, (by (simp only [go_sem]) <;> rfl), ?_, rfl⟩
    simp only [go_sem]
    rfl
  · simp only [if_true] at hsp
    apply EvC.seq
    apply EvC.tr
    · apply Tr.run
      · (simp only [go_sem, Mach.cells, decide_true]) <;> rfl
      · simp
      apply Tr.cons
      · exact .callG rfl rfl (by (simp only [go_sem]) <;> rfl) rfl (by (simp only [go_sem]) <;> rfl) (by (simp only [go_sem]) <;> rfl) (by (simp only [go_sem]) <;> rfl) (by (simp only [go_sem]) <;> rfl) (by (simp only [go_sem]) <;> rfl) (hsp)
      apply Tr.run
      · (simp only [go_sem, Mach.cells, decide_true]) <;> rfl
      · simp
      apply Tr.cons
      · exact .callG rfl rfl (by (simp only [go_sem]) <;> rfl) rfl (by (simp only [go_sem]) <;> rfl) (by (simp only [go_sem]) <;> rfl) (by (simp only [go_sem]) <;> rfl) (by (simp only [go_sem]) <;> rfl) (by (simp only [go_sem]) <;> rfl) (lives_is)
      apply Tr.done
      · (simp only [go_sem]) <;> rfl
      · simp
    refine EvC.ret ⟨.inl rfl, _, (by (simp only [go_sem]) <;> rfl), ?_, rfl⟩
    simp only [go_sem]
    rfl
end Go.Avl
namespace Go.Avl
open Go Go.ChangeShapes Go.RowKit

/-- Every cell that is there. -/
def Live (w : World) : Nat → Nat → Prop := fun b _ => b < w.heap.size

section
variable {H : Type} {enc : TypeId × Value → H} {P : Program} {w : World} {α β : Type}

/-- What is read is of a size that memory can hold. -/
def Fits (P : Program) (t : TypeId) (d : DataW H) : Prop := ∀ n ∈ d.weights P t, n ≤ reachBytes
theorem fits_all {P : Program} {e : TypeId} : ∀ {l : List (DataW H)}, (∀ n ∈ DataW.weightsAll P e l, n ≤ reachBytes) → ∀ d ∈ l, Fits P e d
  | [], _, d, hd => by cases hd
  | a :: l, h, d, hd => by
    simp only [DataW.weightsAll, List.mem_append] at h
    rcases List.mem_cons.1 hd with rfl | hd
    · exact fun n hn => h n (.inl hn)
    · exact fits_all (fun n hn => h n (.inr hn)) d hd
theorem fits_each {P : Program} : ∀ {ts : List TypeId} {l : List (DataW H)}, (∀ n ∈ DataW.weightsEach P ts l, n ≤ reachBytes) → ∀ (i : Nat) t d, ts[i]? = some t → l[i]? = some d → Fits P t d
  | [], _, _, i, t, d, h1, _ => by simp at h1
  | _ :: _, [], _, i, t, d, _, h2 => by simp at h2
  | a :: ts, b :: l, h, i, t, d, h1, h2 => by
    simp only [DataW.weightsEach, List.mem_append] at h
    cases i with
    | zero =>
      simp only [List.getElem?_cons_zero, Option.some.injEq] at h1 h2
      subst h1; subst h2
      exact fun n hn => h n (.inl hn)
    | succ i => exact fits_each (fun n hn => h n (.inr hn)) i t d (by simpa using h1) (by simpa using h2)

/-- The cells of a reading, as abstract values. -/
def Reads (enc : TypeId × Value → H) (P : Program) (w : World) (t : TypeId) (f : α → List AV) (Ok : α → Prop) : Prop :=
  ∀ fuel cs x, Fits P t x.1 → DataW.trod enc P w 0 (fun _ => true) true fuel t cs = some x →
    ∃ a, Ok a ∧ Imms (Live w) w cs (f a) ∧ ∀ v ∈ cs, v.oneCell' = true

theorem Imms.one {F : Nat → Nat → Prop} {v : Value} {x : AV} (h : Imm F w v x) : Imms F w [v] [x] :=
  ⟨rfl, fun i h1 _ => by have : i = 0 := by simpa using h1
                         subst this; exact h⟩
theorem Imms.append {F : Nat → Nat → Prop} {vs vs' : List Value} {xs xs' : List AV} (h : Imms F w vs xs) (h' : Imms F w vs' xs') : Imms F w (vs ++ vs') (xs ++ xs') := by
  have e := h.1
  have e' := h'.1
  refine ⟨by simp [e, e'], fun i h1 h2 => ?_⟩
  by_cases hi : i < vs.length
  · rw [List.getElem_append_left hi, List.getElem_append_left (by omega)]; exact h.2 i _ _
  · rw [List.getElem_append_right (by omega), List.getElem_append_right (by omega)]
    have := h'.2 (i - vs.length) (by simp at h1; omega) (by simp at h2; omega)
    simpa only [e] using this

theorem Reads.mono {t : TypeId} {f : α → List AV} {Ok : α → Prop} {g : β → List AV} {Ok' : β → Prop} (h : Reads enc P w t f Ok) (hq : ∀ a, Ok a → ∃ b, Ok' b ∧ g b = f a) : Reads enc P w t g Ok' :=
  fun fuel cs x hs ht => let ⟨a, h1, h2, h3⟩ := h fuel cs x hs ht; let ⟨b, k1, k2⟩ := hq a h1; ⟨b, k1, by rw [k2]; exact h2, h3⟩
theorem Reads.int {t : TypeId} {k : IntKind} (ht : P.underlying t = some (.int k)) : Reads enc P w t (fun n : Int => [.sc (.int k n)]) (fun n => (Lit.int k n).wf = true) := fun fuel cs x _ h => by
  obtain ⟨n, rfl, rfl, hw⟩ := DataW.trod_int ht h
  exact ⟨n, hw, .one (.sc _), by simp [Value.oneCell']⟩
theorem Reads.bool {t : TypeId} (ht : P.underlying t = some .bool) : Reads enc P w t (fun b : Bool => [.sc (.bool b)]) (fun _ => True) := fun fuel cs x _ h => by
  obtain ⟨b, rfl, rfl⟩ := DataW.trod_bool ht h
  exact ⟨b, trivial, .one (.sc _), by simp [Value.oneCell']⟩

theorem pick {α : Type} {p : Nat → α → Prop} (n : Nat) (h : ∀ i, i < n → ∃ a, p i a) : ∃ l : List α, l.length = n ∧ ∀ i (hi : i < l.length), p i l[i] := by
  induction n with
  | zero => exact ⟨[], rfl, fun i hi => by simp at hi⟩
  | succ n ih =>
    obtain ⟨l, h1, h2⟩ := ih fun i hi => h i (by omega)
    obtain ⟨a, ha⟩ := h n (by omega)
    refine ⟨l ++ [a], by simp [h1], fun i hi => ?_⟩
    by_cases h3 : i < l.length
    · rw [List.getElem_append_left h3]; exact h2 i h3
    · have : i = l.length := by simp at hi; omega
      subst this
      rw [List.getElem_append_right (Nat.le_refl _)]
      simpa [h1] using ha

theorem Reads.slice {t e : TypeId} {f : α → List AV} {Ok : α → Prop} (ht : P.underlying t = some (.slice e)) (he : Reads enc P w e f Ok) (hz : ∀ a, (f a).length = P.cellsOf e) (hz0 : 0 < P.cellsOf e) :
    Reads enc P w t (fun x : Bool × List α => [.sl x.1 (x.2.map f) .unk]) (fun x => (∀ y ∈ x.2, Ok y) ∧ (x.1 = true → x.2 = []) ∧ x.2.length * P.bytesOf e ≤ reachBytes) := fun fuel cs x hs h => by
  rcases DataW.trod_slice ht h with ⟨rfl, rfl⟩ | ⟨a, len, cap, elems, rest, n, rfl, rfl, rfl, _, hlc, hcm, hlen, hel, hrest, _⟩
  · exact ⟨(true, []), ⟨by simp, fun _ => rfl, by simp⟩, .one (.nil _ (.inl rfl)), by simp [Value.oneCell']⟩
  unfold Fits at hs
  simp only [DataW.weights, ht, List.mem_cons, List.mem_append, List.length_map] at hs
  have hbytes : len * P.bytesOf e ≤ reachBytes := by
    have := hs _ (.inl rfl)
    rw [hlen, Nat.add_mul] at this; omega
  have hfit : ∀ i (hi : i < elems.length), Fits P e elems[i].1 := fun i hi =>
    fits_all (l := elems.map (·.1)) (fun n hn => hs n (.inr (.inl hn))) _ (List.mem_map.2 ⟨_, List.getElem_mem hi, rfl⟩)
  by_cases hc0 : cap = 0
  · have hl0 : len = 0 := by omega
    subst hc0; subst hl0
    exact ⟨(false, []), ⟨by simp, by simp, by simp⟩, .one (.sz a _ (.inl rfl)), by simp [Value.oneCell']⟩
  have hfirst : ∃ v, w.cell? a = some v := by
    have hcells : ∃ cs', w.cells? 0 a (P.cellsOf e) = some cs' := by
      by_cases hl0 : len = 0
      · subst hl0
        have h1 := (hrest rfl).2 0 (by omega)
        rw [List.getElem?_eq_getElem (by rw [(hrest rfl).1]; omega)] at h1
        obtain ⟨cs', h2, _⟩ := Option.bind_eq_some_iff.1 h1
        refine ⟨cs', ?_⟩
        simpa [Addr.add] using h2
      · have h1 := hel 0 (by omega)
        rw [List.getElem?_eq_getElem (by omega)] at h1
        obtain ⟨cs', h2, _⟩ := Option.bind_eq_some_iff.1 h1
        refine ⟨cs', ?_⟩
        simpa [Addr.add] using h2
    obtain ⟨cs', h2⟩ := hcells
    obtain ⟨_, q1, q2⟩ := World.cells?_some h2
    have := q2 0 hz0
    rw [List.getElem?_eq_getElem (by omega)] at this
    exact ⟨_, by simpa [Addr.add] using this⟩
  have hsp : a.spot = none := by
    obtain ⟨v, hv⟩ := hfirst
    unfold World.cell? at hv
    cases hsp : a.spot with
    | none => rfl
    | some k =>
      rw [hsp] at hv
      split at hv <;> simp at hv
  obtain ⟨b, off, spt⟩ := a
  cases hsp
  have key : ∀ i, i < len → ∃ y : α, Ok y ∧ ∃ cs', cs'.length = P.cellsOf e ∧ (∀ j (hj : j < cs'.length), w.cell? ⟨b, off + i * P.cellsOf e + j, none⟩ = some cs'[j]) ∧ Imms (Live w) w cs' (f y) ∧ ∀ v ∈ cs', v.oneCell' = true := fun i hi => by
    have h1 := hel i hi
    rw [List.getElem?_eq_getElem (by omega)] at h1
    obtain ⟨cs', h2, h3⟩ := Option.bind_eq_some_iff.1 h1
    obtain ⟨y, k1, k2, k3⟩ := he _ _ _ (hfit i (by omega)) h3
    obtain ⟨_, q1, q2⟩ := World.cells?_some h2
    refine ⟨y, k1, cs', q1, fun j hj => ?_, k2, k3⟩
    have := q2 j (by omega)
    rw [List.getElem?_eq_getElem hj] at this
    rw [← this]
    congr 1
    unfold Addr.add
    by_cases e1 : i * P.cellsOf e = 0
    · rw [if_pos e1]
      by_cases e2 : j = 0
      · subst e2; simp [e1]
      · rw [if_neg e2]; simp [e1]
    · rw [if_neg e1]
      by_cases e2 : j = 0
      · subst e2; simp
      · rw [if_neg e2]
  obtain ⟨l, hl, hp⟩ := pick len key
  refine ⟨(false, l), ⟨fun y hy => ?_, by simp, by rw [hl]; exact hbytes⟩, .one ?_, by simp [Value.oneCell']⟩
  · obtain ⟨i, hi, rfl⟩ := List.getElem_of_mem hy
    exact (hp i hi).1
  · -- the cells of the row
    have hcell : ∀ i j, i < len → j < P.cellsOf e → ∃ v, w.cell? ⟨b, off + i * P.cellsOf e + j, none⟩ = some v ∧ v.oneCell' = true ∧ ∀ (h : i < l.length) (h' : j < (f l[i]).length), Imm (Live w) w v (f l[i])[j] := fun i j hi hj => by
      obtain ⟨_, cs', q1, q2, q3, q4⟩ := hp i (by omega)
      exact ⟨cs'[j], q2 j (by omega), q4 _ (List.getElem_mem _), fun h h' => q3.2 j (by omega) h'⟩
    have hv := fun i j => show ∃ v, i < len → j < P.cellsOf e → w.cell? ⟨b, off + i * P.cellsOf e + j, none⟩ = some v ∧ v.oneCell' = true ∧ ∀ (h : i < l.length) (h' : j < (f l[i]).length), Imm (Live w) w v (f l[i])[j] from by
      by_cases h : i < len ∧ j < P.cellsOf e
      · obtain ⟨v, hv⟩ := hcell i j h.1 h.2; exact ⟨v, fun _ _ => hv⟩
      · exact ⟨undef, fun h1 h2 => absurd ⟨h1, h2⟩ h⟩
    have hvs : ∀ i j, ∃ v, v = Classical.choose (hv i j) := fun i j => ⟨_, rfl⟩
    have e0 : (l.map f).length = len := by simp [hl]
    have := Imm.sl (F := Live w) (w := w) b off cap (P.cellsOf e) (l.map f) .unk (fun i j => Classical.choose (hv i j)) (by rw [e0]; exact hlc) (.inl rfl) (fun i hi => by rw [List.getElem_map]; exact hz _)
      (fun i j hi hj => by
        obtain ⟨k1, k2, _⟩ := Classical.choose_spec (hv i j) (by rw [← e0]; exact hi) hj
        refine ⟨?_, k1, k2⟩
        unfold World.cell? at k1
        show b < w.heap.size
        cases hb : w.heap[b]? with
        | none => simp [hb] at k1
        | some o => exact (Array.getElem?_eq_some_iff.1 hb).1)
      (fun i j h h' => by
        have h'2 := h'
        rw [List.getElem_map, hz] at h'2
        have := (Classical.choose_spec (hv i j) (by rw [← e0]; exact h) h'2).2.2 (by simpa using h) (by rw [hz]; exact h'2)
        simpa only [List.getElem_map] using this)
    rw [e0] at this
    exact this

/-- The fields of a struct from cell k on. -/
def RdF (enc : TypeId × Value → H) (P : Program) (w : World) (L : List Field) (k tot : Nat) (f : α → List AV) (Ok : α → Prop) : Prop :=
  ∀ (n : Nat) (cs : List Value), cs.length = tot → (∀ fd ∈ L, ∃ y, DataW.trod enc P w 0 (fun _ => true) true n fd.type ((cs.drop fd.offset).take (P.cellsOf fd.type)) = some y ∧ Fits P fd.type y.1) →
    ∃ a, Ok a ∧ Imms (Live w) w (cs.drop k) (f a) ∧ ∀ v ∈ cs.drop k, v.oneCell' = true
theorem RdF.nil {tot : Nat} : RdF enc P w [] tot tot (fun _ : Unit => []) (fun _ => True) := fun n cs hl _ => by
  have : cs.drop tot = [] := by rw [List.drop_eq_nil_iff]; omega
  rw [this]
  exact ⟨(), trivial, ⟨rfl, fun i h => by simp at h⟩, by simp⟩
theorem RdF.cons {fd : Field} {fs : List Field} {k k' sz tot : Nat} {f : α → List AV} {Ok : α → Prop} {g : β → List AV} {Ok' : β → Prop} (ho : fd.offset = k) (hz : P.cellsOf fd.type = sz) (hk : k + sz = k')
    (h : Reads enc P w fd.type f Ok) (hs : RdF enc P w fs k' tot g Ok') : RdF enc P w (fd :: fs) k tot (fun x : α × β => f x.1 ++ g x.2) (fun x => Ok x.1 ∧ Ok' x.2) := fun n cs hl hf => by
  obtain ⟨y, hy, hyf⟩ := hf fd List.mem_cons_self
  obtain ⟨a, h1, h2, h3⟩ := h _ _ _ hyf hy
  obtain ⟨b, k1, k2, k3⟩ := hs n cs hl fun fd' h' => hf fd' (List.mem_cons_of_mem _ h')
  have e : cs.drop k = (cs.drop k).take sz ++ cs.drop k' := by
    rw [← hk, ← List.drop_drop, List.take_append_drop]
  rw [ho, hz] at h2 h3
  refine ⟨(a, b), ⟨h1, k1⟩, by rw [e]; exact h2.append k2, fun v hv => ?_⟩
  rw [e, List.mem_append] at hv
  rcases hv with hv | hv
  · exact h3 v hv
  · exact k3 v hv
theorem Reads.struct {t : TypeId} {fs : Array Field} {tot : Nat} {f : α → List AV} {Ok : α → Prop} (ht : P.underlying t = some (.struct fs)) (hz : P.cellsOf t = tot) (h : RdF enc P w fs.toList 0 tot f Ok) : Reads enc P w t f Ok := fun fuel cs x hs hx => by
  obtain ⟨xs, n, _, rfl, hl, hlen, hf⟩ := DataW.trod_struct ht hx
  unfold Fits at hs
  simp only [DataW.weights, ht] at hs
  obtain ⟨a, h1, h2, h3⟩ := h n cs (hl.trans hz) fun fd hfd => by
    obtain ⟨i, hi, rfl⟩ := List.getElem_of_mem hfd
    have := hf i fs.toList[i] (by simp)
    have hix : i < xs.length := by simp at hi; omega
    rw [List.getElem?_eq_getElem hix] at this
    exact ⟨_, this, fits_each hs i _ _ (by rw [List.getElem?_map, List.getElem?_eq_getElem hi]; rfl) (by rw [List.getElem?_map, List.getElem?_eq_getElem hix]; rfl)⟩
  exact ⟨a, h1, by simpa using h2, by simpa using h3⟩

theorem arr_go {sz : Nat} {f : α → List AV} {Ok : α → Prop} : ∀ (n : Nat) (cs : List Value), cs.length = n * sz →
    (∀ i, i < n → ∃ a, Ok a ∧ Imms (Live w) w ((cs.drop (i * sz)).take sz) (f a) ∧ ∀ v ∈ (cs.drop (i * sz)).take sz, v.oneCell' = true) →
    ∃ l : List α, l.length = n ∧ (∀ a ∈ l, Ok a) ∧ Imms (Live w) w cs (l.map f).flatten ∧ ∀ v ∈ cs, v.oneCell' = true
  | 0, cs, hl, _ => by
    have : cs = [] := by cases cs with
      | nil => rfl
      | cons a l => simp at hl
    subst this
    exact ⟨[], rfl, by simp, ⟨rfl, fun i h => by simp at h⟩, by simp⟩
  | n + 1, cs, hl, h => by
    obtain ⟨a, h1, h2, h3⟩ := h 0 (by omega)
    obtain ⟨l, k1, k2, k3, k4⟩ := arr_go (sz := sz) n (cs.drop sz) (by rw [List.length_drop, hl, Nat.add_mul]; omega) fun i hi => by
      have := h (i + 1) (by omega)
      rwa [List.drop_drop, show sz + i * sz = (i + 1) * sz by rw [Nat.add_mul]; omega]
    simp only [Nat.zero_mul, List.drop_zero] at h2 h3
    have e := List.take_append_drop sz cs
    refine ⟨a :: l, by simp [k1], fun b hb => ?_, ?_, fun v hv => ?_⟩
    · rcases List.mem_cons.1 hb with rfl | hb
      · exact h1
      · exact k2 b hb
    · rw [← e]; simpa using h2.append k3
    · rw [← e, List.mem_append] at hv
      rcases hv with hv | hv
      · exact h3 v hv
      · exact k4 v hv
theorem Reads.array {t e : TypeId} {n sz : Nat} {f : α → List AV} {Ok : α → Prop} (ht : P.underlying t = some (.array n e)) (hz : P.cellsOf e = sz) (ha : P.cellsOf t = n * sz) (h : Reads enc P w e f Ok) :
    Reads enc P w t (fun l : List α => (l.map f).flatten) (fun l => l.length = n ∧ ∀ a ∈ l, Ok a) := fun fuel cs x hs hx => by
  obtain ⟨xs, m, _, rfl, hl, hlen, hf⟩ := DataW.trod_array ht hx
  rw [ha] at hl
  rw [hz] at hf
  unfold Fits at hs
  simp only [DataW.weights, ht] at hs
  obtain ⟨l, h1, h2, h3, h4⟩ := arr_go n cs hl fun i hi => by
    have := hf i hi
    rw [List.getElem?_eq_getElem (by omega)] at this
    exact h _ _ _ (fits_all hs _ (List.mem_map.2 ⟨_, List.getElem_mem _, rfl⟩)) this
  exact ⟨l, ⟨h1, h2⟩, h3, h4⟩

theorem Reads.imm_struct {t : TypeId} {fs : Array Field} {f : α → List AV} {Ok : α → Prop} {r : Reach} {b0 : Nat} {v : Value} {d : DataW H} {ps : List MemPlace} (ht : P.underlying t = some (.struct fs)) (h : Reads enc P w t f Ok)
    (hv : Value.okWide P w r b0 t v) (hw : Fits P t d) (hd : DataW.Trod enc P w 0 (fun _ => true) true t v d ps) : ∃ a, Ok a ∧ Imm (Live w) w v (.ag (f a)) := by
  obtain ⟨cs, rfl, _⟩ := WideShapes.okWide_struct ht hv
  obtain ⟨fuel, hd⟩ := hd
  obtain ⟨a, h1, h2, _⟩ := h _ _ _ hw hd
  refine ⟨a, h1, ?_⟩
  have : (Value.agg cs) = .agg cs.toList.toArray := by simp
  rw [this]
  exact .ag _ _ h2.1 h2.2
theorem Reads.imm_array {t e : TypeId} {n : Nat} {f : α → List AV} {Ok : α → Prop} {r : Reach} {b0 : Nat} {v : Value} {d : DataW H} {ps : List MemPlace} (ht : P.underlying t = some (.array n e)) (h : Reads enc P w t f Ok)
    (hv : Value.okWide P w r b0 t v) (hw : Fits P t d) (hd : DataW.Trod enc P w 0 (fun _ => true) true t v d ps) : ∃ a, Ok a ∧ Imm (Live w) w v (.ag (f a)) := by
  simp only [Value.okWide, ht] at hv
  obtain ⟨cs, rfl, _⟩ := hv
  obtain ⟨fuel, hd⟩ := hd
  obtain ⟨a, h1, h2, _⟩ := h _ _ _ hw hd
  refine ⟨a, h1, ?_⟩
  have : (Value.agg cs) = .agg cs.toList.toArray := by simp
  rw [this]
  exact .ag _ _ h2.1 h2.2
theorem Reads.imm_slice {t e : TypeId} {f : α → AV} {Ok : α → Prop} {r : Reach} {b0 : Nat} {v : Value} {d : DataW H} {ps : List MemPlace} (ht : P.underlying t = some (.slice e)) (h : Reads enc P w t (fun a => [f a]) Ok)
    (hv : Value.okWide P w r b0 t v) (hw : Fits P t d) (hd : DataW.Trod enc P w 0 (fun _ => true) true t v d ps) : ∃ a, Ok a ∧ Imm (Live w) w v (f a) := by
  have hc : v.cells = #[v] := by
    simp only [Value.okWide, ht, Cell.okWide] at hv
    cases v <;> simp_all [Cell.ok, Value.cells]
  obtain ⟨fuel, hd⟩ := hd
  obtain ⟨a, h1, h2, _⟩ := h _ _ _ hw hd
  rw [hc] at h2
  exact ⟨a, h1, h2.2 0 (by simp) (by simp)⟩

theorem Grown.below {F F' : Nat → Nat → Prop} {w' : World} (g : Avl.Grown F w F' w') : Below w.heap.size w w' := ⟨g.kept.os, g.kept.tape, g.kept.output, g.size, g.old⟩

theorem trodAll_stays (hl : laidOutB P = true) {w' : World} (hb : Below w.heap.size w w') {spf : Nat → Bool} : ∀ {ts : List TypeId} {vs : List Value} {ds : List (DataW H)} {ps : List MemPlace}, (∀ t ∈ ts, P.readableRec t = true ∧ t < P.types.size) →
    DataW.TrodAll enc P w 0 (fun _ => true) true ts vs ds ps → (∀ p ∈ ps, p.block < w.heap.size) → (∀ p ∈ ps, spf p.block = true) → DataW.TrodAll enc P w' 0 spf true ts vs ds ps
  | [], [], [], _, _, h, _, _ => h
  | t :: ts, v :: vs, d :: ds, _, hr, ⟨p, q, h1, h2, e⟩, hlt, hsp => by
    subst e
    refine ⟨p, q, ?_, trodAll_stays hl hb (fun t ht => hr t (List.mem_cons_of_mem _ ht)) h2 (fun x hx => hlt x (List.mem_append_right _ hx)) fun x hx => hsp x (List.mem_append_right _ hx), rfl⟩
    have := hr t List.mem_cons_self
    exact WideElems.Trod_stays hl this.1 this.2 h1 (fun x hx => hb.same (hlt x (List.mem_append_left _ hx))) fun x hx => hsp x (List.mem_append_left _ hx)
  | [], _ :: _, _, _, _, h, _, _ => h.elim
  | [], [], _ :: _, _, _, h, _, _ => h.elim
  | _ :: _, [], _, _, _, h, _, _ => h.elim
  | _ :: _, _ :: _, [], _, _, h, _, _ => h.elim

/-- A law from its contract: true comes back, and the arguments read as they did. -/
theorem law_calls {f : FuncId} {fn : Func} {s : ChangeSpec} {apart fresh handsOn again : Bool} {args : Array Value} {avs : List AV} {ds : List (DataW H)} {before : List MemPlace} {tb : TypeId}
    (hl : laidOutB P = true) (hrd : (fn.params.toList.all fun t => P.readableRec t && decide (t < P.types.size)) = true) (hrt : fn.resultTypes = #[tb]) (htb : P.underlying tb = some .bool) (hvars : s.vars = [])
    (hs : s.fn H (ds ++ []) = { results := [.lit (.bool true)], args := ds })
    (h : PureIs P f avs (.sc (.bool true))) (hi : Imms (Live w) w args.toList avs) (hW : DataW.Whole enc P fn.params.toList s.vars apart w args.toList ds [] before) :
    Calls P f args w fun e W' => ∃ v, e = .returned v ∧ s.post enc P fn apart fresh handsOn again w args v W' := by
  have hW' := hW
  obtain ⟨p, q, hA, hV, rfl, hfz, hnd⟩ := hW
  rw [hvars] at hV
  obtain ⟨_, rfl⟩ := trodVars_none hV
  have hc := callsIn_wide.1 (h.2 (Live w) w args.toList (fun _ _ h => h) hi)
  rw [Array.toArray_toList] at hc
  refine hc.mono fun e W' ⟨v, F', he, hr, g⟩ => ?_
  have hv : v = .bool true := by cases hr; rfl
  subst hv
  have hb := Grown.below g
  refine ⟨_, he, post_of_same (pa := p) (pv := []) (by simpa using hW') (fun _ _ _ => ?_) (fun sp hsp => ?_) (fun _ _ => ?_) (by simp) (hb.frame _) g.kept.froz ?_⟩
  · rw [hs, hrt]; exact trodAll_mk1 (shut_bool htb true)
  · rw [hs]
    refine trodAll_stays hl hb (fun t ht => ?_) hA (fun x hx => hW'.lt x (by simpa using hx)) fun x hx => hsp x (by simpa using hx)
    have := List.all_eq_true.1 hrd t ht
    simpa using this
  · rw [hvars, hs]; exact rfl
  · exact ok_one hrt rfl (okWide_bool_mk htb true)

end
end Go.Avl
