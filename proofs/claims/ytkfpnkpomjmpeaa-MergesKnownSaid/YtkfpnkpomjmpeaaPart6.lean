/-
  Lemmas.
  Lemmas.
  Lemmas.
  Lemmas.
  Lemmas.
  Lemmas.
  Lemmas.
  Lemmas.
  Lemmas.
  Lemmas.
  Lemmas.
  Lemmas.
  Lemmas.
  Lemmas.
  Lemmas.
  Lemmas.
  Lemmas.
  Lemmas.
  Lemmas.
  Lemmas.
  Lemmas.
-/
import Derived.Test.YtkfpnkpomjmpeaaPart5
set_option linter.unusedSimpArgs false
set_option linter.unusedVariables false
set_option linter.unnecessarySimpa false
set_option linter.deprecated false
namespace Go.Avl
open Go Go.Proofs.Try
set_option maxRecDepth 10000
set_option linter.unusedSimpArgs false
structure TR where
 w : List Int
 r : List Int
def traceC (t : TR) : List AV := [.sl t.w.isEmpty (t.w.map intC) .unk, .sl t.r.isEmpty (t.r.map intC) .unk]
@[go_sem] theorem norefs_traces (l : List TR) : (l.map traceC).all AV.norefs = true := by simp [List.all_eq_true, traceC, AV.norefs, AV.noref]
@[go_sem] theorem norefs_wbR (l : List (Bool × List Int)) : (l.map wbR).all AV.norefs = true := by simp [List.all_eq_true, wbR, AV.norefs, AV.noref]
structure LG where
 m : LM
 wn : Bool
 ws : List (Bool × List Int)
 wc : Cp
 at' : Int
 step : Int
 by' : Int
def LG.cells (g : LG) : List AV := [.sc (.int .u8 g.m.st), .sc (.int .u8 g.m.ins), .sc (.int .u8 g.m.outs), .sc (.bool g.m.part), .sl g.m.nl (g.m.es.map u16C) g.m.cap, .sl g.wn (g.ws.map wbR) g.wc, .sc (.int .u8 g.at'), .sc (.int .u8 g.step), .sc (.int .u8 g.by')]
structure LG.Ok (g : LG) : Prop where
 m : g.m.Ok
 ws : ∀ y ∈ g.ws, ∀ e ∈ y.2, 0 ≤ e ∧ e < 256
 at' : 0 ≤ g.at' ∧ g.at' < 256
 step : 0 ≤ g.step ∧ g.step < 256
 by' : 0 ≤ g.by' ∧ g.by' < 256
end Go.Avl
namespace Go.Avl
open Go Go.Proofs.Try
set_option maxRecDepth 10000
set_option linter.unusedSimpArgs false
def logA (i o : Int) (l : List TR) : AV := .ag [.sc (.int .i64 i), .sc (.int .i64 o), .sl l.isEmpty (l.map traceC) .unk]
end Go.Avl
namespace Go.Avl
open Go Go.Proofs.Try
set_option maxRecDepth 10000
set_option linter.unusedSimpArgs false
def stepL : List Int → List Int → List Int → List Int → Int → Int
 | x :: aw, p :: ar, y :: bw, q :: br, k => if x = y then (if p = q then stepL aw ar bw br (k + 1) else k) else -1
 | _, _, _, _, _ => -1
def stepT (a b : TR) : Int := stepL a.w a.r b.w b.r 0
theorem stepL_drop {aw ar bw br : List Int} (ha : ar.length = aw.length) (hb : br.length = bw.length) {i : Nat} (h1 : i < aw.length) (h2 : i < bw.length) (k : Int) {x p y q : Int} (hx : aw[i]? = some x) (hp : ar[i]? = some p) (hy : bw[i]? = some y) (hq : br[i]? = some q) :
  stepL (aw.drop i) (ar.drop i) (bw.drop i) (br.drop i) k = if x = y then (if p = q then stepL (aw.drop (i + 1)) (ar.drop (i + 1)) (bw.drop (i + 1)) (br.drop (i + 1)) (k + 1) else k) else -1 := by
 rw [List.getElem?_eq_getElem (by omega)] at hx hp hy hq
 rw [List.drop_eq_getElem_cons (l := aw) h1, List.drop_eq_getElem_cons (l := ar) (by omega), List.drop_eq_getElem_cons (l := bw) h2, List.drop_eq_getElem_cons (l := br) (by omega), stepL]
 cases hx; cases hp; cases hy; cases hq
 rfl
theorem stepL_end {aw ar bw br : List Int} (k : Int) (h : aw = [] ∨ bw = []) : stepL aw ar bw br k = -1 := by
 rcases h with rfl | rfl
 ·cases ar <;> cases bw <;> cases br <;> rfl
 ·cases aw <;> cases ar <;> cases br <;> rfl
set_option maxHeartbeats 4000000 in
theorem step59_is (a b : TR) (ha : a.r.length = a.w.length) (hb : b.r.length = b.w.length) (hl : a.w.length < 1000000) :
  PureIs prog 59 [.ag (traceC a), .ag (traceC b)] (.sc (.int .i64 (stepT a b))) := by
 obtain ⟨aw, ar⟩ := a
 obtain ⟨bw, br⟩ := b
 simp only at ha hb hl
 unfold stepT
 simp only
 refine PureIs.of (nv := 2) (hid := [2, 3, 4, 5, 30, 43]) func59 rfl (by kernel_rfl) (by simp [ntmps59]) fun _ => ?_
 rw [ntmps59, results59]
 refine EvC.seq (EvC.rg (by simp only [go_sem, traceC] <;> rfl) (by simp) ?_)
 refine EvC.frzB 0 (by simp only [go_sem] <;> rfl) ?_
 refine EvC.frzB 1 (by simp only [go_sem] <;> rfl) ?_
 refine EvC.seq ?_
 refine EvC.seq (EvC.rg (by simp only [go_sem] <;> rfl) (by simp) ?_)
 refine EvC.block ?_
 refine EvC.loopS (σ := Nat) (fun i => ⟨[(2, .ia (traceC ⟨aw, ar⟩)), (3, .ia (traceC ⟨bw, br⟩)), (5, .sc (.int .i64 i))], [], [], 0⟩) (fun i => aw.length - i) (fun i => i ≤ aw.length ∧ stepL aw ar bw br 0 = stepL (aw.drop i) (ar.drop i) (bw.drop i) (br.drop i) i) [2, 3, 5] 0 ?_ ?_
 ·refine ⟨[], 0, rfl, (by simp only [go_sem, traceC, Int.natCast_zero] <;> rfl), Nat.zero_le _, rfl⟩
 rintro i ⟨h1, h2⟩
 have hin : (i : Int).toNat = i := Int.toNat_natCast i
 refine EvC.seq ?_
 by_cases e1 : i < aw.length
 rotate_left
 ·have d1 : decide ((i : Int) < aw.length) = false := decide_eq_false (by omega)
  have hr : stepL aw ar bw br 0 = -1 := by rw [h2]; exact stepL_end _ (.inl (List.drop_eq_nil_of_le (by omega)))
  rw [hr]
  have hx : aw[i]? = none := List.getElem?_eq_none (by omega)
  by_cases e2 : i < bw.length
  ·have hy : bw[i]? = some (bw[i]'e2) := List.getElem?_eq_getElem e2
   apply EvC.seq
   apply EvC.drw mixed
   ·apply Tr.run
    ·simp only [go_sem, traceC, List.length_map, d1, List.getElem?_map, hx, hy, hin, intC] <;> rfl
    ·simp
    apply Tr.cons
    ·exact .skipv (.ia [.sc (.int .i64 0)]) rfl rfl (by simp only [go_sem] <;> rfl) (by simp only [go_sem] <;> rfl)
    apply Tr.done
    ·simp only [go_sem, traceC, List.length_map, d1, List.getElem?_map, hx, hy, hin, intC] <;> rfl
    ·simp
   ·kernel_rfl
   refine EvC.cond_false (by simp only [go_sem] <;> rfl) ?_
   refine EvC.exit ?_
   refine EvC.seq (EvC.rg (by simp only [go_sem] <;> rfl) (by simp) ?_)
   refine EvC.ret ⟨.inl rfl, _, (by simp only [go_sem] <;> rfl), ?_, rfl⟩
   simp only [go_sem]
  ·have hy : bw[i]? = none := List.getElem?_eq_none (by omega)
   apply EvC.seq
   apply EvC.drw mixed
   ·apply Tr.run
    ·simp only [go_sem, traceC, List.length_map, d1, List.getElem?_map, hx, hy, hin, intC] <;> rfl
    ·simp
    apply Tr.cons
    ·exact .skipv (.ia [.sc (.int .i64 0)]) rfl rfl (by simp only [go_sem] <;> rfl) (by simp only [go_sem] <;> rfl)
    apply Tr.run
    ·simp only [go_sem, traceC, List.length_map, d1, List.getElem?_map, hx, hy, hin, intC] <;> rfl
    ·simp
    apply Tr.cons
    ·exact .skipv (.ia [.sc (.int .i64 0)]) rfl rfl (by simp only [go_sem] <;> rfl) (by simp only [go_sem] <;> rfl)
    apply Tr.done
    ·simp only [go_sem, traceC, List.length_map, d1, List.getElem?_map, hx, hy, hin, intC] <;> rfl
    ·simp
   ·kernel_rfl
   refine EvC.cond_false (by simp only [go_sem] <;> rfl) ?_
   refine EvC.exit ?_
   refine EvC.seq (EvC.rg (by simp only [go_sem] <;> rfl) (by simp) ?_)
   refine EvC.ret ⟨.inl rfl, _, (by simp only [go_sem] <;> rfl), ?_, rfl⟩
   simp only [go_sem]
 have d1 : decide ((i : Int) < aw.length) = true := decide_eq_true (by omega)
 by_cases e2 : i < bw.length
 rotate_left
 ·have d2 : decide ((i : Int) < bw.length) = false := decide_eq_false (by omega)
  have hr : stepL aw ar bw br 0 = -1 := by rw [h2]; exact stepL_end _ (.inr (List.drop_eq_nil_of_le (by omega)))
  have hx : aw[i]? = some (aw[i]'e1) := List.getElem?_eq_getElem e1
  rw [hr]
  have hy : bw[i]? = none := List.getElem?_eq_none (by omega)
  apply EvC.seq
  apply EvC.drw mixed
  ·apply Tr.run
   ·simp only [go_sem, traceC, List.length_map, d1, d2, List.getElem?_map, hx, hy, hin, intC] <;> rfl
   ·simp; try omega
   apply Tr.cons
   ·exact .skipv (.ia [.sc (.int .i64 0)]) rfl rfl (by simp only [go_sem] <;> rfl) (by simp only [go_sem] <;> rfl)
   apply Tr.done
   ·simp only [go_sem, traceC, List.length_map, d1, d2, List.getElem?_map, hx, hy, hin, intC] <;> rfl
   ·simp
  ·kernel_rfl
  refine EvC.cond_false (by simp only [go_sem] <;> rfl) ?_
  refine EvC.exit ?_
  refine EvC.seq (EvC.rg (by simp only [go_sem] <;> rfl) (by simp) ?_)
  refine EvC.ret ⟨.inl rfl, _, (by simp only [go_sem] <;> rfl), ?_, rfl⟩
  simp only [go_sem]
 have d2 : decide ((i : Int) < bw.length) = true := decide_eq_true (by omega)
 have hx : aw[i]? = some (aw[i]'e1) := List.getElem?_eq_getElem e1
 have hp : ar[i]? = some (ar[i]'(by omega)) := List.getElem?_eq_getElem _
 have hy : bw[i]? = some (bw[i]'e2) := List.getElem?_eq_getElem e2
 have hq : br[i]? = some (br[i]'(by omega)) := List.getElem?_eq_getElem _
 rw [stepL_drop ha hb e1 e2 i hx hp hy hq] at h2
 generalize aw[i]'e1 = x at hx h2
 generalize ar[i]'(by omega) = p at hp h2
 generalize bw[i]'e2 = y at hy h2
 generalize br[i]'(by omega) = q at hq h2
 apply EvC.seq
 apply EvC.drd mixed
 ·simp only [go_sem, traceC, List.length_map, d1, d2, List.getElem?_map, hx, hy, hin, intC] <;> rfl
 ·simp; try omega
 ·kernel_rfl
 refine EvC.cond (by simp only [go_sem] <;> rfl) (fun hc => ?_) (fun hc => ?_)
 rotate_left
 ·
  have hc : ¬ x = y := by simpa using hc
  rw [if_neg hc] at h2
  rw [h2]
  refine EvC.exit ?_
  refine EvC.seq (EvC.rg (by simp only [go_sem] <;> rfl) (by simp) ?_)
  refine EvC.ret ⟨.inl rfl, _, (by simp only [go_sem] <;> rfl), ?_, rfl⟩
  simp only [go_sem]
 have hc : x = y := by simpa using hc
 rw [if_pos hc] at h2
 refine EvC.skip ?_
 refine EvC.seq ?_
 refine EvC.block ?_
 apply EvC.seq
 apply EvC.drd mixed
 ·simp only [go_sem, traceC, List.length_map, List.getElem?_map, hp, hq, hin, intC] <;> rfl
 ·simp; try omega
 ·kernel_rfl
 refine EvC.cond (by simp only [go_sem] <;> rfl) (fun hc2 => ?_) (fun hc2 => ?_)
 ·have hc2 : ¬ p = q := by simpa using hc2
  rw [if_neg hc2] at h2
  rw [h2]
  refine EvC.seq (EvC.rg (by simp only [go_sem] <;> rfl) (by simp) ?_)
  refine EvC.ret ⟨.inl rfl, _, (by simp only [go_sem] <;> rfl), ?_, rfl⟩
  simp only [go_sem]
 have hc2 : p = q := by simpa using hc2
 rw [if_pos hc2] at h2
 refine EvC.skip ?_
 refine EvC.rg (by simp only [go_sem] <;> rfl) (by exact inI64_of (by omega) (by omega)) ?_
 exact ⟨[], i + 1, rfl, (by simp only [go_sem, Int.natCast_add, Int.natCast_one, traceC] <;> rfl), ⟨by omega, h2⟩, by omega⟩
end Go.Avl
namespace Go.Avl
open Go Go.Proofs.Try
set_option maxRecDepth 10000
set_option linter.unusedSimpArgs false
def conAt (L : List TR) (b a : Nat) : Int := match L[a]?, L[b]? with
 | some x, some y => stepT x y
 | _, _ => -1
def conIn (L : List TR) (b : Nat) : Nat → Nat → Option Nat
 | _, 0 => none
 | a, n + 1 => if 0 ≤ conAt L b a then some a else conIn L b (a + 1) n
def conOut (L : List TR) : Nat → Nat → Option (Nat × Nat)
 | _, 0 => none
 | b, n + 1 => match conIn L b 0 b with
   | some a => some (a, b)
   | none => conOut L (b + 1) n
def conR (L : List TR) : Int × Int × Int × Bool := match conOut L 0 L.length with
 | some (a, b) => (a, b, conAt L b a, true)
 | none => (0, 0, 0, false)
def conB (L : List TR) : Bool := (conR L).2.2.2
structure TrOk (t : TR) : Prop where
 len : t.r.length = t.w.length
 small : t.w.length ≤ 1000
set_option maxHeartbeats 4000000 in
theorem contra25_is (i o : Int) (nl : Bool) (L : List TR) (c : Cp) (hL : ∀ t ∈ L, TrOk t) (hl : L.length < 1000000) :
  PureIs prog 25 [.ag [.sc (.int .i64 i), .sc (.int .i64 o), .sl nl (L.map traceC) c]] (.tu [.ag [.sc (.int .i64 (conR L).1), .sc (.int .i64 (conR L).2.1), .sc (.int .i64 (conR L).2.2.1)], .sc (.bool (conR L).2.2.2)]) := by
 unfold conR
 refine PureIs.of (nv := 1) (hid := [1, 2, 3, 4, 5, 6, 11, 16, 31]) func25 rfl (by kernel_rfl) (by simp [ntmps25]) fun _ => ?_
 rw [ntmps25, results25]
 refine EvC.seq (EvC.rg (by simp only [go_sem] <;> rfl) (by simp) ?_)
 refine EvC.frzB 0 (by simp only [go_sem] <;> rfl) ?_
 refine EvC.seq ?_
 refine EvC.seq (EvC.rg (by simp only [go_sem] <;> rfl) (by simp) ?_)
 refine EvC.block ?_
 refine EvC.loopS (σ := Nat) (fun b => ⟨[(1, .ia [.sc (.int .i64 i), .sc (.int .i64 o), .sl nl (L.map traceC) c]), (2, .rf 0 0), (3, .sc (.bool false)), (4, .sc (.int .i64 b))], [], [(0, .cells [.sc (.int .i64 0), .sc (.int .i64 0), .sc (.int .i64 0)])], 1⟩) (fun b => L.length - b) (fun b => b ≤ L.length ∧ conOut L 0 L.length = conOut L b (L.length - b)) [1, 2, 3, 4] 1 ?_ ?_
 ·refine ⟨[(1, 0)], 0, rfl, (by simp only [go_sem, Int.natCast_zero] <;> rfl), Nat.zero_le _, rfl⟩
 rintro b ⟨h1, h2⟩
 have hbin : (b : Int).toNat = b := Int.toNat_natCast b
 refine EvC.seq ?_
 refine EvC.seq (EvC.rg (by simp only [go_sem, List.length_map] <;> rfl) (by simp) ?_)
 refine EvC.cond (by simp only [go_sem] <;> rfl) (fun hc => ?_) (fun hc => ?_)
 rotate_left
 ·
  have hc : ¬ b < L.length := by simpa using hc
  rw [h2, show L.length - b = 0 by omega, conOut]
  refine EvC.exit ?_
  refine EvC.seq (EvC.rg (by simp only [go_sem] <;> rfl) (by simp) ?_)
  refine EvC.ret ⟨.inl rfl, _, (by simp only [go_sem] <;> rfl), ?_, rfl⟩
  simp only [go_sem]
 have hc : b < L.length := by simpa using hc
 refine EvC.skip ?_
 refine EvC.seq ?_
 refine EvC.block ?_
 have hy : L[b]? = some (L[b]'hc) := List.getElem?_eq_getElem hc
 have hyk := hL _ (List.getElem_mem hc)
 generalize L[b]'hc = y at hy hyk
 refine EvC.seq (EvC.rg (by simp only [go_sem] <;> rfl) (by simp) ?_)
 refine EvC.block ?_
 refine EvC.loopS (σ := Nat) (fun a => ⟨[(1, .ia [.sc (.int .i64 i), .sc (.int .i64 o), .sl nl (L.map traceC) c]), (2, .rf 0 0), (3, .sc (.bool false)), (4, .sc (.int .i64 b)), (5, .sc (.int .i64 a))], [], [(0, .cells [.sc (.int .i64 0), .sc (.int .i64 0), .sc (.int .i64 0)])], 1⟩) (fun a => b - a) (fun a => a ≤ b ∧ conIn L b 0 b = conIn L b a (b - a)) [1, 2, 3, 4, 5] 1 ?_ ?_
 ·refine ⟨[(0, 0)], 0, rfl, (by simp only [go_sem, Int.natCast_zero] <;> rfl), Nat.zero_le _, rfl⟩
 rintro a ⟨g1, g2⟩
 have hain : (a : Int).toNat = a := Int.toNat_natCast a
 refine EvC.seq ?_
 refine EvC.seq (EvC.rg (by simp only [go_sem] <;> rfl) (by simp) ?_)
 refine EvC.cond (by simp only [go_sem] <;> rfl) (fun hd => ?_) (fun hd => ?_)
 rotate_left
 ·
  have hd : ¬ a < b := by simpa using hd
  refine EvC.exit ?_
  have h3 : conOut L 0 L.length = conOut L (b + 1) (L.length - (b + 1)) := by
   rw [h2, show L.length - b = (L.length - (b + 1)) + 1 by omega, conOut, g2, show b - a = 0 by omega, conIn]
  refine EvC.rg (by simp only [go_sem] <;> rfl) (by exact inI64_of (by omega) (by omega)) ?_
  exact ⟨[(0, 0)], b + 1, rfl, (by simp only [go_sem, Int.natCast_add, Int.natCast_one] <;> rfl), ⟨by omega, h3⟩, by omega⟩
 have hd : a < b := by simpa using hd
 refine EvC.skip ?_
 refine EvC.seq ?_
 refine EvC.block ?_
 have hal : a < L.length := by omega
 have hx : L[a]? = some (L[a]'hal) := List.getElem?_eq_getElem hal
 have hxk := hL _ (List.getElem_mem hal)
 generalize L[a]'hal = x at hx hxk
 have hS := step59_is x y hxk.len hyk.len (by have := hxk.small; omega)
 have hca : conAt L b a = stepT x y := by rw [conAt, hx, hy]
 rw [show b - a = (b - (a + 1)) + 1 by omega, conIn, hca] at g2
 generalize stepT x y = s at hS g2 hca
 apply EvC.seq
 apply EvC.drw mixed
 ·apply Tr.run
  ·simp only [go_sem, hx, hy, hain, hbin, traceC, List.length_map] <;> rfl
  ·simp; try omega
  apply Tr.cons
  ·exact .call rfl rfl (by simp only [go_sem] <;> rfl) (by simp only [go_sem] <;> rfl) (by simp only [go_sem] <;> rfl) (by simp only [go_sem] <;> rfl) (by simp only [go_sem] <;> rfl) (hS)
  apply Tr.done
  ·simp only [go_sem] <;> rfl
  ·simp
 ·kernel_rfl
 refine EvC.seq (EvC.rg (by simp only [go_sem] <;> rfl) (by simp) ?_)
 refine EvC.cond (by simp only [go_sem] <;> rfl) (fun he => ?_) (fun he => ?_)
 ·
  have he : 0 ≤ s := by simpa using he
  rw [if_pos he] at g2
  have h3 : conOut L 0 L.length = some (a, b) := by
   rw [h2, show L.length - b = (L.length - (b + 1)) + 1 by omega, conOut, g2]
  rw [h3]
  simp only
  rw [hca]
  refine EvC.seq (EvC.rg (by simp only [go_sem] <;> rfl) (by simp) ?_)
  refine EvC.ret ⟨.inl rfl, _, (by simp only [go_sem] <;> rfl), ?_, rfl⟩
  simp only [go_sem]
 have he : ¬ 0 ≤ s := by simpa using he
 rw [if_neg he] at g2
 refine EvC.skip ?_
 refine EvC.rg (by simp only [go_sem] <;> rfl) (by exact inI64_of (by omega) (by omega)) ?_
 exact ⟨[(0, 0)], a + 1, rfl, (by simp only [go_sem, Int.natCast_add, Int.natCast_one] <;> rfl), ⟨by omega, g2⟩, by omega⟩
end Go.Avl
namespace Go.Avl
open Go Go.Proofs.Try
set_option maxRecDepth 10000
set_option linter.unusedSimpArgs false
def hasW (t : TR) (w : List Int) : Prop := w.length ≤ t.w.length ∧ t.w.take w.length = w
instance (t : TR) (w : List Int) : Decidable (hasW t w) := by unfold hasW; infer_instance
def lastL : List TR → List Int → Option Int
 | [], _ => none
 | t :: L, w => if hasW t w then some ((t.r[w.length - 1]?).getD 0) else lastL L w
def lastN (L : List TR) (w : List Int) : Int := (lastL L w).getD 0
theorem lastL_drop {L : List TR} {i : Nat} (h : i < L.length) {t : TR} (ht : L[i]? = some t) (w : List Int) : lastL (L.drop i) w = if hasW t w then some ((t.r[w.length - 1]?).getD 0) else lastL (L.drop (i + 1)) w := by
 rw [List.getElem?_eq_getElem h] at ht; cases ht
 rw [List.drop_eq_getElem_cons h, lastL]
set_option maxHeartbeats 4000000 in
theorem last62_is (i o : Int) (nl : Bool) (L : List TR) (c : Cp) (nw : Bool) (w : List Int) (cw : Cp) (hL : ∀ t ∈ L, TrOk t) (hl : L.length < 1000000) (hw : w ≠ []) (hwl : w.length < 1000000) :
  PureIs prog 62 [.ag [.sc (.int .i64 i), .sc (.int .i64 o), .sl nl (L.map traceC) c], .sl nw (w.map intC) cw] (.tu [.sc (.int .i64 (lastN L w)), .sc (.bool (lastL L w).isSome)]) := by
 have hw0 : w.length ≠ 0 := fun h => hw (List.length_eq_zero_iff.1 h)
 unfold lastN
 refine PureIs.of (nv := 2) (hid := [2, 4, 5, 6, 11, 36]) func62 rfl (by kernel_rfl) (by simp [ntmps62]) fun _ => ?_
 rw [ntmps62, results62]
 refine EvC.seq (EvC.rg (by simp only [go_sem] <;> rfl) (by simp) ?_)
 refine EvC.frzB 0 (by simp only [go_sem] <;> rfl) ?_
 refine EvC.seq ?_
 refine EvC.seq (EvC.rg (by simp only [go_sem] <;> rfl) (by simp) ?_)
 refine EvC.block ?_
 refine EvC.loopS (σ := Nat) (fun k => ⟨[(1, .sl nw (w.map intC) cw), (2, .ia [.sc (.int .i64 i), .sc (.int .i64 o), .sl nl (L.map traceC) c]), (6, .sc (.int .i64 k))], [], [], 0⟩) (fun k => L.length - k) (fun k => k ≤ L.length ∧ lastL L w = lastL (L.drop k) w) [1, 2, 6] 0 ?_ ?_
 ·refine ⟨[], 0, rfl, (by simp only [go_sem, Int.natCast_zero] <;> rfl), Nat.zero_le _, rfl⟩
 rintro k ⟨h1, h2⟩
 have hkin : (k : Int).toNat = k := Int.toNat_natCast k
 refine EvC.seq ?_
 refine EvC.seq (EvC.rg (by simp only [go_sem, List.length_map] <;> rfl) (by simp) ?_)
 refine EvC.cond (by simp only [go_sem] <;> rfl) (fun hc => ?_) (fun hc => ?_)
 rotate_left
 ·
  have hc : ¬ k < L.length := by simpa using hc
  rw [h2, List.drop_eq_nil_of_le (by omega), lastL, show (none : Option Int).isSome = false from rfl, show (none : Option Int).getD 0 = 0 from rfl]
  refine EvC.exit ?_
  refine EvC.seq (EvC.rg (by simp only [go_sem] <;> rfl) (by simp) ?_)
  refine EvC.ret ⟨.inl rfl, _, (by simp only [go_sem] <;> rfl), ?_, rfl⟩
  simp only [go_sem]
 have hc : k < L.length := by simpa using hc
 refine EvC.skip ?_
 refine EvC.seq ?_
 refine EvC.block ?_
 have hx : L[k]? = some (L[k]'hc) := List.getElem?_eq_getElem hc
 have hxk := hL _ (List.getElem_mem hc)
 generalize L[k]'hc = x at hx hxk
 rw [lastL_drop hc hx w] at h2
 obtain ⟨xw, xr⟩ := x
 have hl1 := hxk.len
 have hl2 := hxk.small
 simp only at hl1 hl2 h2
 by_cases e1 : w.length ≤ xw.length
 rotate_left
 ·
  have d1 : decide ((w.length : Int) ≤ xw.length) = false := decide_eq_false (by omega)
  rw [if_neg (fun h => e1 h.1)] at h2
  apply EvC.seq
  apply EvC.tr
  ·apply Tr.run
   ·simp only [go_sem, hx, traceC, hkin, d1, List.length_map] <;> rfl
   ·simp [hc]; try omega
   apply Tr.cons
   ·exact .skipv ((.sc (.bool false))) rfl rfl (by simp only [go_sem] <;> rfl) (by simp only [go_sem] <;> rfl)
   apply Tr.done
   ·simp only [go_sem, hx, traceC, hkin, d1, List.length_map] <;> rfl
   ·simp
  refine EvC.cond_false (by simp only [go_sem] <;> rfl) ?_
  refine EvC.skip ?_
  refine EvC.rg (by simp only [go_sem] <;> rfl) (by exact inI64_of (by omega) (by omega)) ?_
  exact ⟨[], k + 1, rfl, (by simp only [go_sem, Int.natCast_add, Int.natCast_one] <;> rfl), ⟨by omega, h2⟩, by omega⟩
 have d1 : decide ((w.length : Int) ≤ xw.length) = true := decide_eq_true (by omega)
 have hS := same_is xw.isEmpty (xw.take w.length) .unk nw w cw (by simp; omega)
 have htm : List.take w.length (xw.map intC) = (xw.take w.length).map intC := (List.map_take ..).symm
 apply EvC.seq
 apply EvC.tr
 ·apply Tr.run
  ·simp only [go_sem, hx, traceC, hkin, d1, List.length_map, htm] <;> rfl
  ·simp [hc, intC]; try omega
  apply Tr.cons
  ·exact .callG rfl rfl (by simp only [go_sem] <;> rfl) rfl (by simp only [go_sem] <;> rfl) (by simp only [go_sem] <;> rfl) (by simp only [go_sem] <;> rfl) (by simp only [go_sem] <;> rfl) (by simp only [go_sem] <;> rfl) (hS)
  apply Tr.done
  ·simp only [go_sem, hx, traceC, hkin, d1, List.length_map] <;> rfl
  ·simp
 refine EvC.cond (by simp only [go_sem] <;> rfl) (fun he => ?_) (fun he => ?_)
 ·have he : xw.take w.length = w := by simpa using he
  rw [if_pos ⟨e1, he⟩] at h2
  have hxr : xr[w.length - 1]? = some (xr[w.length - 1]'(by omega)) := List.getElem?_eq_getElem _
  have hin2 : ((w.length : Int) - 1).toNat = w.length - 1 := by omega
  rw [h2, hxr]
  generalize xr[w.length - 1]'(by omega) = v at hxr
  rw [show (some v).getD 0 = v from rfl, show (some v).isSome = true from rfl, show (some v).getD 0 = v from rfl]
  refine EvC.seq (EvC.rg (by simp only [go_sem, hx, traceC, hkin, hin2, List.length_map, List.getElem?_map, hxr, intC] <;> rfl) (by simp [hc]; exact ⟨inI64_of (by omega) (by omega), by omega⟩) ?_)
  refine EvC.ret ⟨.inl rfl, _, (by simp only [go_sem] <;> rfl), ?_, rfl⟩
  simp only [go_sem]
 have he : ¬ xw.take w.length = w := by simpa using he
 rw [if_neg (fun h => he h.2)] at h2
 refine EvC.skip ?_
 refine EvC.rg (by simp only [go_sem] <;> rfl) (by exact inI64_of (by omega) (by omega)) ?_
 exact ⟨[], k + 1, rfl, (by simp only [go_sem, Int.natCast_add, Int.natCast_one] <;> rfl), ⟨by omega, h2⟩, by omega⟩
end Go.Avl
namespace Go.Avl
open Go Go.Proofs.Try
set_option maxRecDepth 10000
set_option linter.unusedSimpArgs false
def nwC (w : List Int) : List AV := [.sl false (w.map intC) .unk]
@[go_sem] theorem norefs_nwC (l : List (List Int)) : (l.map nwC).all AV.norefs = true := by simp [List.all_eq_true, nwC, AV.norefs, AV.noref]
def addL : List (List Int) → List Int → Bool → List (List Int)
 | [], w, done => if done then [] else [w]
 | x :: l, w, done => (if cmpW w x < 0 ∧ done = false then [w] else []) ++ x :: addL l w (done || decide (cmpW w x ≤ 0))
theorem addL_drop {l : List (List Int)} {i : Nat} (h : i < l.length) {x : List Int} (hx : l[i]? = some x) (w : List Int) (done : Bool) :
  addL (l.drop i) w done = (if cmpW w x < 0 ∧ done = false then [w] else []) ++ x :: addL (l.drop (i + 1)) w (done || decide (cmpW w x ≤ 0)) := by
 rw [List.getElem?_eq_getElem h] at hx; cases hx
 rw [List.drop_eq_getElem_cons h, addL]
theorem addL_len (w : List Int) : ∀ (l : List (List Int)) (d : Bool), (addL l w d).length ≤ l.length + (if d then 0 else 1)
 | [], d => by cases d <;> simp [addL]
 | x :: l, d => by
   have h1 := addL_len w l true
   have h2 := addL_len w l false
   cases d
   ·rw [addL]
    by_cases hc : cmpW w x < 0
    ·rw [if_pos ⟨hc, rfl⟩, show decide (cmpW w x ≤ 0) = true from decide_eq_true (by omega)]
     simp at h1 ⊢; omega
    ·rw [if_neg (fun h => hc h.1)]
     by_cases he : cmpW w x ≤ 0
     ·rw [decide_eq_true he]; simp at h1 ⊢; omega
     ·rw [decide_eq_false he]; simp at h2 ⊢; omega
   ·rw [addL]; simp at h1 ⊢; omega
set_option maxHeartbeats 4000000 in
theorem find63_is (nl : Bool) (l : List (List Int)) (c : Cp) (nw : Bool) (w : List Int) (cw : Cp) (hl : l.length < 1000000) (hs : ∀ x ∈ l, x.length < 1000000) :
  PureIs prog 63 [.sl nl (l.map nwC) c, .sl nw (w.map intC) cw] (.sc (.int .i64 (if l.idxOf w < l.length then (l.idxOf w : Int) else -1))) := by
 refine PureIs.of (nv := 2) (hid := [4, 5, 9, 17]) func63 rfl (by kernel_rfl) (by simp [ntmps63]) fun _ => ?_
 rw [ntmps63, results63]
 refine EvC.seq (EvC.rg (by simp only [go_sem] <;> rfl) (by simp) ?_)
 refine EvC.seq ?_
 refine EvC.seq (EvC.rg (by simp only [go_sem] <;> rfl) (by simp) ?_)
 refine EvC.block ?_
 refine EvC.loopS (σ := Nat) (fun k => ⟨[(0, .sl nl (l.map nwC) c), (1, .sl nw (w.map intC) cw), (5, .sc (.int .i64 k))], [], [], 0⟩) (fun k => l.length - k) (fun k => k ≤ l.length ∧ ∀ j, j < k → l[j]? ≠ some w) [0, 1, 5] 0 ?_ ?_
 ·refine ⟨[], 0, rfl, (by simp only [go_sem, Int.natCast_zero] <;> rfl), Nat.zero_le _, fun j h => absurd h (Nat.not_lt_zero _)⟩
 rintro k ⟨h1, h2⟩
 have hkin : (k : Int).toNat = k := Int.toNat_natCast k
 have hge : k ≤ l.idxOf w := by
  refine Nat.le_of_not_lt fun h => ?_
  have hlt : l.idxOf w < l.length := by omega
  refine h2 _ h ?_
  rw [List.getElem?_eq_getElem hlt, List.getElem_idxOf hlt]
 refine EvC.seq ?_
 refine EvC.seq (EvC.rg (by simp only [go_sem, List.length_map] <;> rfl) (by simp) ?_)
 refine EvC.cond (by simp only [go_sem] <;> rfl) (fun hc => ?_) (fun hc => ?_)
 rotate_left
 ·
  have hc : ¬ k < l.length := by simpa using hc
  rw [if_neg (by omega)]
  refine EvC.exit ?_
  refine EvC.seq (EvC.rg (by simp only [go_sem] <;> rfl) (by simp) ?_)
  refine EvC.ret ⟨.inl rfl, _, (by simp only [go_sem] <;> rfl), ?_, rfl⟩
  simp only [go_sem]
 have hc : k < l.length := by simpa using hc
 refine EvC.skip ?_
 refine EvC.seq ?_
 refine EvC.block ?_
 have hx : l[k]? = some (l[k]'hc) := List.getElem?_eq_getElem hc
 have hxs := hs _ (List.getElem_mem hc)
 have hid : w = l[k]'hc → l.idxOf w = k := fun h => by
  refine Nat.le_antisymm (Nat.le_of_not_lt fun hlt => ?_) hge
  have := List.not_of_lt_findIdx (p := (· == w)) (xs := l) (i := k) hlt
  rw [← h] at this
  simp at this
 generalize l[k]'hc = x at hx hxs hid
 have hS := same_is false x .unk nw w cw hxs
 apply EvC.seq
 apply EvC.tr
 ·apply Tr.run
  ·simp only [go_sem, hx, nwC, hkin, List.length_map] <;> rfl
  ·simp; try omega
  apply Tr.cons
  ·exact .call rfl rfl (by simp only [go_sem] <;> rfl) (by simp only [go_sem] <;> rfl) (by simp only [go_sem] <;> rfl) (by simp only [go_sem] <;> rfl) (by simp only [go_sem] <;> rfl) (hS)
  apply Tr.done
  ·simp only [go_sem] <;> rfl
  ·simp
 refine EvC.cond (by simp only [go_sem] <;> rfl) (fun he => ?_) (fun he => ?_)
 ·have he : x = w := by simpa using he
  rw [hid he.symm, if_pos hc]
  refine EvC.seq (EvC.rg (by simp only [go_sem] <;> rfl) (by simp) ?_)
  refine EvC.ret ⟨.inl rfl, _, (by simp only [go_sem] <;> rfl), ?_, rfl⟩
  simp only [go_sem]
 have he : ¬ x = w := by simpa using he
 refine EvC.skip ?_
 refine EvC.rg (by simp only [go_sem] <;> rfl) (by exact inI64_of (by omega) (by omega)) ?_
 exact ⟨[], k + 1, rfl, (by simp only [go_sem, Int.natCast_add, Int.natCast_one] <;> rfl), ⟨by omega, fun j hj => by
  rcases Nat.lt_or_ge j k with h | h
  ·exact h2 j h
  ·obtain rfl : j = k := by omega
   rw [hx]; simpa using he⟩, by omega⟩
set_option maxHeartbeats 4000000 in
theorem add76_is (nl : Bool) (l : List (List Int)) (c : Cp) (w : List Int) (hl : l.length < 1000000) (hs : ∀ x ∈ l, x.length < 1000000) (hw : w ≠ []) (hwl : w.length < 1000000) :
  PureIs prog 76 [.sl nl (l.map nwC) c, .sl false (w.map intC) .unk] (.sl false ((addL l w false).map nwC) .unk) := by
 refine PureIs.of (nv := 2) (hid := [4, 5, 6, 7, 8, 12, 26, 44]) func76 rfl (by kernel_rfl) (by simp [ntmps76]) fun _ => ?_
 rw [ntmps76, results76]
 refine EvC.seq (EvC.rg (by simp only [go_sem] <;> rfl) (by simp) ?_)
 refine EvC.seq (EvC.rg (by simp only [go_sem] <;> rfl) (by simp) ?_)
 refine EvC.seq (EvC.rg (by simp only [go_sem] <;> rfl) (by simp) ?_)
 refine EvC.seq ?_
 refine EvC.seq (EvC.rg (by simp only [go_sem] <;> rfl) (by simp) ?_)
 refine EvC.block ?_
 have hnw : nwC w = [.sl false (w.map intC) .unk] := rfl
 refine EvC.loopS (σ := Nat × List (List Int) × Bool) (fun g => ⟨[(0, .sl nl (l.map nwC) c), (1, .sl false (w.map intC) .unk), (5, .tl 0 g.2.1.length g.2.1.isEmpty), (6, .sc (.bool g.2.2)), (7, .sc (.int .i64 g.1))], [], [(0, .arr 1 (g.2.1.map nwC) true)], 1⟩) (fun g => l.length - g.1) (fun g => g.1 ≤ l.length ∧ g.2.1.length ≤ 2 * g.1 ∧ g.2.1 ++ addL (l.drop g.1) w g.2.2 = addL l w false) [0, 1, 5, 6, 7] 1 ?_ ?_
 ·exact ⟨[(1, 0)], (0, [], false), rfl, (by simp only [go_sem, Int.natCast_zero, List.map_nil, List.length_nil, List.isEmpty_nil] <;> rfl), Nat.zero_le _, Nat.zero_le _, rfl⟩
 rintro ⟨k, out, d⟩ ⟨h1, h2, h3⟩
 simp only at h1 h2 h3 ⊢
 have hkin : (k : Int).toNat = k := Int.toNat_natCast k
 refine EvC.seq ?_
 refine EvC.seq (EvC.rg (by simp only [go_sem, List.length_map] <;> rfl) (by simp) ?_)
 refine EvC.cond (by simp only [go_sem] <;> rfl) (fun hc => ?_) (fun hc => ?_)
 rotate_left
 ·
  have hc : ¬ k < l.length := by simpa using hc
  rw [List.drop_eq_nil_of_le (by omega), addL] at h3
  refine EvC.exit ?_
  refine EvC.seq ?_
  refine EvC.seq (EvC.rg (by simp only [go_sem] <;> rfl) (by simp) ?_)
  cases d with
  | true =>
    rw [if_pos rfl, List.append_nil] at h3
    subst h3
    refine EvC.cond_false (by simp only [go_sem] <;> rfl) ?_
    refine EvC.skip ?_
    have hne : (addL l w false).isEmpty = false := by
     cases l with
     | nil => rfl
     | cons a b => rw [addL]; split <;> rfl
    generalize addL l w false = R at hne h2
    refine EvC.frz 0 (by simp only [go_sem, List.length_map] <;> rfl) ?_
    rw [hne]
    refine EvC.seq (EvC.rg (by simp only [go_sem, List.length_map] <;> rfl) (by simp) ?_)
    refine EvC.ret ⟨.inl rfl, _, (by simp only [go_sem] <;> rfl), ?_, rfl⟩
    simp only [go_sem]
  | false =>
    rw [if_neg (by simp)] at h3
    refine EvC.cond_true (by simp only [go_sem] <;> rfl) ?_
    have hsn : out.map nwC ++ [[.sl false (w.map intC) .unk]] = (out ++ [w]).map nwC := by rw [List.map_append, List.map_cons, List.map_nil, hnw]
    have hsl : out.length + 1 = (out ++ [w]).length := by simp
    have hr2 : room (out.length + 1) 24 = true := by simp only [room_eq, decide_eq_true_eq]; omega
    rw [hsl] at hr2
    rw [h3] at hsn hsl hr2
    generalize addL l w false = R at hsn hsl hr2
    refine EvC.rg (by simp only [go_sem, hsn, hsl, List.length_map] <;> rfl) (by simp [hr2]) ?_
    refine EvC.frz 0 (by simp only [go_sem, List.length_map] <;> rfl) ?_
    refine EvC.seq (EvC.rg (by simp only [go_sem, List.length_map] <;> rfl) (by simp) ?_)
    refine EvC.ret ⟨.inl rfl, _, (by simp only [go_sem] <;> rfl), ?_, rfl⟩
    simp only [go_sem]
 have hc : k < l.length := by simpa using hc
 refine EvC.skip ?_
 refine EvC.seq ?_
 refine EvC.block ?_
 have hx : l[k]? = some (l[k]'hc) := List.getElem?_eq_getElem hc
 have hxs := hs _ (List.getElem_mem hc)
 rw [addL_drop hc hx w d] at h3
 generalize l[k]'hc = x at hx hxs h3
 have hC := compare_is false w .unk false x .unk hwl
 generalize cmpW w x = cw at hC h3
 apply EvC.seq
 apply EvC.tr
 ·apply Tr.run
  ·simp only [go_sem, hx, nwC, hkin, List.length_map] <;> rfl
  ·simp; try omega
  apply Tr.cons
  ·exact .call rfl rfl (by simp only [go_sem] <;> rfl) (by simp only [go_sem] <;> rfl) (by simp only [go_sem] <;> rfl) (by simp only [go_sem] <;> rfl) (by simp only [go_sem] <;> rfl) (hC)
  apply Tr.done
  ·simp only [go_sem] <;> rfl
  ·simp
 refine EvC.mergeS (α := List (List Int)) (fun o2 => ⟨[(0, .sl nl (l.map nwC) c), (1, .sl false (w.map intC) .unk), (5, .tl 0 o2.length o2.isEmpty), (6, .sc (.bool d)), (7, .sc (.int .i64 k)), (8, .sc (.int .i64 cw))], [], [(0, .arr 1 (o2.map nwC) true)], 1⟩)
  (fun o2 => o2 = out ++ if cw < 0 ∧ d = false then [w] else []) [0, 1, 5, 6, 7, 8] 1 ?_ ?_
 ·apply EvC.seq
  apply EvC.trd
  ·simp only [go_sem] <;> rfl
  ·simp
  have hcf : (if decide (cw < 0) = true then !d else false) = decide (cw < 0 ∧ d = false) := by
   by_cases h : cw < 0
   ·rw [decide_eq_true h, if_pos rfl]; cases d <;> simp [h]
   ·rw [decide_eq_false h]; simp [h]
  by_cases he : cw < 0 ∧ d = false
  ·refine EvC.cond_true (by simp only [go_sem, hcf, decide_eq_true he] <;> rfl) ?_
   rw [if_pos he]
   have hsn : out.map nwC ++ [[.sl false (w.map intC) .unk]] = (out ++ [w]).map nwC := by rw [List.map_append, List.map_cons, List.map_nil, hnw]
   have hsl : out.length + 1 = (out ++ [w]).length := by simp
   have hse : (out ++ [w]).isEmpty = false := by simp
   have hr2 : room (out.length + 1) 24 = true := by simp only [room_eq, decide_eq_true_eq]; omega
   rw [hsl] at hr2
   generalize out ++ [w] = o2 at hsn hsl hse hr2
   refine EvC.rg (by simp only [go_sem, hsn, hsl, List.length_map] <;> rfl) (by simp [hr2]) ?_
   exact ⟨rfl, [(0, 0)], o2, rfl, (by simp only [go_sem, hse] <;> rfl), rfl⟩
  refine EvC.cond_false (by simp only [go_sem, hcf, decide_eq_false he] <;> rfl) ?_
  refine EvC.skip ?_
  rw [if_neg he, List.append_nil]
  exact ⟨rfl, [(0, 0)], out, rfl, (by simp only [go_sem] <;> rfl), rfl⟩
 rintro o2 ho2
 have hol : o2.length ≤ out.length + 1 := by rw [ho2]; split <;> simp
 rw [← List.append_assoc, ← ho2, show o2 ++ x :: addL (l.drop (k + 1)) w (d || decide (cw ≤ 0)) = (o2 ++ [x]) ++ addL (l.drop (k + 1)) w (d || decide (cw ≤ 0)) by simp] at h3
 have hd : (if d = true then true else decide (cw ≤ 0)) = (d || decide (cw ≤ 0)) := by cases d <;> rfl
 generalize hdd : (d || decide (cw ≤ 0)) = d2 at h3 hd
 have hsn : o2.map nwC ++ [[.sl false (x.map intC) .unk]] = (o2 ++ [x]).map nwC := by rw [List.map_append]; rfl
 have hsl : o2.length + 1 = (o2 ++ [x]).length := by simp
 have hse : (o2 ++ [x]).isEmpty = false := by simp
 have hr2 : room (o2.length + 1) 24 = true := by simp only [room_eq, decide_eq_true_eq]; omega
 rw [hsl] at hr2
 generalize hO3 : o2 ++ [x] = o3 at hsn hsl hse hr2 h3
 apply EvC.seq
 apply EvC.trd
 ·simp only [go_sem, hd] <;> rfl
 ·cases d <;> simp
 refine EvC.rg (by simp only [go_sem, hx, nwC, hkin, hsn, hsl, List.length_map] <;> rfl) (by simp [hr2, hc]) ?_
 refine EvC.rg (by simp only [go_sem] <;> rfl) (by exact inI64_of (by omega) (by omega)) ?_
 exact ⟨[(0, 0)], (k + 1, o3, d2), rfl, (by simp only [go_sem, hse, Int.natCast_add, Int.natCast_one] <;> rfl), ⟨by simp only; omega, by simp only; omega, h3⟩, by simp only; omega⟩
end Go.Avl
namespace Go.Avl
open Go Go.Proofs.Try
set_option maxRecDepth 10000
set_option linter.unusedSimpArgs false
def preN (r : List Int) : Nat := (r.takeWhile fun x => decide (x ≠ -1)).length
def addP (t : TR) (l : List (List Int)) (k : Nat) : List (List Int) := (List.range k).foldl (fun l j => addL l (t.w.take (j + 1)) false) l
def nodesTo (L : List TR) (i : Nat) : List (List Int) := (L.take i).foldl (fun l t => addP t l (preN t.r)) [[]]
def nodesL (L : List TR) : List (List Int) := L.foldl (fun l t => addP t l (preN t.r)) [[]]
theorem addP_succ (t : TR) (l : List (List Int)) (k : Nat) : addP t l (k + 1) = addL (addP t l k) (t.w.take (k + 1)) false := by
 rw [addP, List.range_succ, List.foldl_append]; rfl
theorem nodesTo_succ {L : List TR} {i : Nat} (h : i < L.length) {t : TR} (ht : L[i]? = some t) : nodesTo L (i + 1) = addP t (nodesTo L i) (preN t.r) := by
 rw [List.getElem?_eq_getElem h] at ht; cases ht
 rw [nodesTo, List.take_succ_eq_append_getElem h, List.foldl_append]; rfl
theorem addL_mem {w : List Int} : ∀ {l : List (List Int)} {d : Bool} {x : List Int}, x ∈ addL l w d → x ∈ l ∨ x = w
 | [], d, x, h => by
   cases d
   ·simp [addL] at h; exact .inr h
   ·simp [addL] at h
 | y :: l, d, x, h => by
   rw [addL] at h
   rcases List.mem_append.1 h with h | h
   ·split at h
    ·simp at h; exact .inr h
    ·cases h
   ·rcases List.mem_cons.1 h with rfl | h
    ·exact .inl List.mem_cons_self
    ·rcases addL_mem h with h | h
     ·exact .inl (List.mem_cons_of_mem _ h)
     ·exact .inr h
theorem addP_mem {t : TR} {l : List (List Int)} : ∀ {k : Nat} {x : List Int}, x ∈ addP t l k → x ∈ l ∨ ∃ j, j < k ∧ x = t.w.take (j + 1)
 | 0, x, h => .inl h
 | k + 1, x, h => by
   rw [addP_succ] at h
   rcases addL_mem h with h | h
   ·rcases addP_mem h with h | ⟨j, h1, h2⟩
    ·exact .inl h
    ·exact .inr ⟨j, by omega, h2⟩
   ·exact .inr ⟨k, by omega, h⟩
theorem addP_len (t : TR) (l : List (List Int)) : ∀ k, (addP t l k).length ≤ l.length + k
 | 0 => Nat.le_refl _
 | k + 1 => by
   rw [addP_succ]
   have h1 := addL_len (t.w.take (k + 1)) (addP t l k) false
   have h2 := addP_len t l k
   simp at h1; omega
theorem preN_le (r : List Int) : preN r ≤ r.length := (List.takeWhile_prefix _).length_le
theorem nodesTo_len {L : List TR} (hL : ∀ t ∈ L, TrOk t) : ∀ i, i ≤ L.length → (nodesTo L i).length ≤ 1 + 1000 * i
 | 0, _ => by simp [nodesTo]
 | i + 1, h => by
   have hi : i < L.length := h
   rw [nodesTo_succ hi (List.getElem?_eq_getElem hi)]
   have h1 := addP_len L[i] (nodesTo L i) (preN L[i].r)
   have h2 := nodesTo_len hL i (by omega)
   have h3 := preN_le L[i].r
   have h4 := (hL _ (List.getElem_mem hi)).len
   have h5 := (hL _ (List.getElem_mem hi)).small
   omega
theorem nodesTo_mem {L : List TR} (hL : ∀ t ∈ L, TrOk t) : ∀ i, i ≤ L.length → ∀ x ∈ nodesTo L i, x.length ≤ 1000
 | 0, _, x, h => by simp [nodesTo] at h; subst h; exact Nat.zero_le _
 | i + 1, h, x, hx => by
   have hi : i < L.length := h
   rw [nodesTo_succ hi (List.getElem?_eq_getElem hi)] at hx
   rcases addP_mem hx with h1 | ⟨j, _, rfl⟩
   ·exact nodesTo_mem hL i (by omega) x h1
   ·have := (hL _ (List.getElem_mem hi)).small
    rw [List.length_take]; omega
theorem preN_get {r : List Int} {k : Nat} (h : k < r.length) (hk : k ≤ preN r) : k < preN r ↔ r[k] ≠ -1 := by
 unfold preN at hk ⊢
 induction r generalizing k with
 | nil => simp at h
 | cons y r ih =>
   rw [List.takeWhile_cons] at hk ⊢
   by_cases hy : y = -1
   ·subst hy
    simp at hk
    subst hk
    simp
   ·have e : decide (y ≠ -1) = true := decide_eq_true hy
    rw [e] at hk ⊢
    simp only [if_true, List.length_cons] at hk ⊢
    cases k with
    | zero => simp [hy]
    | succ k =>
      simp only [List.length_cons] at h
      have := ih (k := k) (by omega) (by omega)
      simp only [List.getElem_cons_succ]
      omega
set_option maxHeartbeats 4000000 in
theorem nodes61_is (i o : Int) (nl : Bool) (L : List TR) (c : Cp) (hL : ∀ t ∈ L, TrOk t) (hl : L.length ≤ 900) :
  PureIs prog 61 [.ag [.sc (.int .i64 i), .sc (.int .i64 o), .sl nl (L.map traceC) c]] (.sl false ((nodesL L).map nwC) .unk) := by
 have hfin : nodesTo L L.length = nodesL L := by rw [nodesTo, List.take_length]; rfl
 refine PureIs.of (nv := 1) (hid := [1, 2, 3, 4, 5, 6, 13, 33]) func61 rfl (by kernel_rfl) (by simp [ntmps61]) fun _ => ?_
 rw [ntmps61, results61]
 refine EvC.seq (EvC.rg (by simp only [go_sem] <;> rfl) (by simp) ?_)
 refine EvC.frzB 0 (by simp only [go_sem] <;> rfl) ?_
 refine EvC.seq (EvC.rg (by simp only [go_sem] <;> rfl) (by simp) ?_)
 refine EvC.unkV 3 (by simp only [go_sem] <;> rfl) ?_
 refine EvC.seq ?_
 refine EvC.seq (EvC.rg (by simp only [go_sem] <;> rfl) (by simp) ?_)
 refine EvC.block ?_
 refine EvC.loopS (σ := Nat) (fun k => ⟨[(1, .ia [.sc (.int .i64 i), .sc (.int .i64 o), .sl nl (L.map traceC) c]), (3, .sl false ((nodesTo L k).map nwC) .unk), (4, .sc (.int .i64 k))], [], [], 0⟩) (fun k => L.length - k) (fun k => k ≤ L.length) [1, 3, 4] 0 ?_ ?_
 ·exact ⟨[], 0, rfl, (by simp only [go_sem, Int.natCast_zero, nodesTo, List.take_zero, List.foldl_nil, List.map_nil, List.map_cons, nwC] <;> rfl), Nat.zero_le _⟩
 rintro k h1
 have hkin : (k : Int).toNat = k := Int.toNat_natCast k
 refine EvC.seq ?_
 refine EvC.seq (EvC.rg (by simp only [go_sem, List.length_map] <;> rfl) (by simp) ?_)
 refine EvC.cond (by simp only [go_sem] <;> rfl) (fun hc => ?_) (fun hc => ?_)
 rotate_left
 ·
  have hc : ¬ k < L.length := by simpa using hc
  rw [← hfin, show L.length = k by omega]
  refine EvC.exit ?_
  refine EvC.seq (EvC.rg (by simp only [go_sem] <;> rfl) (by simp) ?_)
  refine EvC.ret ⟨.inl rfl, _, (by simp only [go_sem] <;> rfl), ?_, rfl⟩
  simp only [go_sem]
 have hc : k < L.length := by simpa using hc
 refine EvC.skip ?_
 refine EvC.seq ?_
 refine EvC.block ?_
 have hx : L[k]? = some (L[k]'hc) := List.getElem?_eq_getElem hc
 have hxk := hL _ (List.getElem_mem hc)
 have hnext := nodesTo_succ hc hx
 generalize L[k]'hc = t at hx hxk hnext
 have hnl := nodesTo_len hL k (by omega)
 have hnm := nodesTo_mem hL k (by omega)
 generalize nodesTo L k = N at hnext hnl hnm
 have ht1 := hxk.len
 have ht2 := hxk.small
 have hP := preN_le t.r
 refine EvC.seq (EvC.rg (by simp only [go_sem, hx, hkin, List.length_map, traceC] <;> rfl) (by simp [hc]) ?_)
 refine EvC.frzB 10 (by simp only [go_sem] <;> rfl) ?_
 refine EvC.seq (EvC.rg (by simp only [go_sem] <;> rfl) (by simp) ?_)
 refine EvC.block ?_
 refine EvC.loopS (σ := Nat) (fun j => ⟨[(1, .ia [.sc (.int .i64 i), .sc (.int .i64 o), .sl nl (L.map traceC) c]), (3, .sl false ((addP t N j).map nwC) .unk), (4, .sc (.int .i64 k)), (5, .ia (traceC t)), (6, .sc (.int .i64 j))], [], [], 0⟩) (fun j => preN t.r - j) (fun j => j ≤ preN t.r) [1, 3, 4, 5, 6] 0 ?_ ?_
 ·exact ⟨[], 0, rfl, (by simp only [go_sem, Int.natCast_zero, addP, List.range_zero, List.foldl_nil, traceC] <;> rfl), Nat.zero_le _⟩
 rintro j g1
 have hjin : (j : Int).toNat = j := Int.toNat_natCast j
 have hj1 : ((j : Int) + 1).toNat = j + 1 := by omega
 have hal := addP_len t N j
 have ham : ∀ x ∈ addP t N j, x.length < 1000000 := fun x hx => by
  rcases addP_mem hx with h | ⟨z, _, rfl⟩
  ·have := hnm x h; omega
  ·rw [List.length_take]; omega
 have hsucc := addP_succ t N j
 have hend : j = preN t.r → nodesTo L (k + 1) = addP t N j := fun h => by rw [hnext, h]
 obtain ⟨tw, tr⟩ := t
 simp only at ht1 ht2 hP g1 hend hsucc ⊢
 generalize hA : addP ⟨tw, tr⟩ N j = A at hal ham hsucc hend
 refine EvC.seq ?_
 by_cases e1 : j < tw.length
 rotate_left
 ·have d1 : decide ((j : Int) < tw.length) = false := decide_eq_false (by omega)
  have hr : tr[j]? = none := List.getElem?_eq_none (by omega)
  have hjp : j = preN tr := by omega
  apply EvC.seq
  apply EvC.tr
  ·apply Tr.run
   ·simp only [go_sem, traceC, List.length_map, List.getElem?_map, hr, hjin, d1] <;> rfl
   ·simp
   apply Tr.cons
   ·exact .skipv (.ia [.sc (.int .i64 0)]) rfl rfl (by simp only [go_sem] <;> rfl) (by simp only [go_sem] <;> rfl)
   apply Tr.done
   ·simp only [go_sem, traceC, List.length_map, List.getElem?_map, hr, hjin, d1] <;> rfl
   ·simp
  refine EvC.cond_false (by simp only [go_sem] <;> rfl) ?_
  refine EvC.exit ?_
  refine EvC.rg (by simp only [go_sem] <;> rfl) (by exact inI64_of (by omega) (by omega)) ?_
  exact ⟨[], k + 1, rfl, (by rw [hend hjp]; simp only [go_sem, Int.natCast_add, Int.natCast_one] <;> rfl), by omega, by omega⟩
 have d1 : decide ((j : Int) < tw.length) = true := decide_eq_true (by omega)
 have hr : tr[j]? = some (tr[j]'(by omega)) := List.getElem?_eq_getElem _
 have hpg := preN_get (r := tr) (k := j) (by omega) g1
 generalize tr[j]'(by omega) = v at hr hpg
 apply EvC.seq
 apply EvC.trd
 ·simp only [go_sem, traceC, List.length_map, List.getElem?_map, hr, hjin, d1, intC] <;> rfl
 ·simp; try omega
 refine EvC.cond (by simp only [go_sem] <;> rfl) (fun he => ?_) (fun he => ?_)
 rotate_left
 ·have he : v = -1 := by simpa using he
  have hjp : j = preN tr := by
   have : ¬ j < preN tr := fun h => hpg.1 h he
   omega
  refine EvC.exit ?_
  refine EvC.rg (by simp only [go_sem] <;> rfl) (by exact inI64_of (by omega) (by omega)) ?_
  exact ⟨[], k + 1, rfl, (by rw [hend hjp]; simp only [go_sem, Int.natCast_add, Int.natCast_one] <;> rfl), by omega, by omega⟩
 have he : ¬ v = -1 := by simpa using he
 have hjp := hpg.2 he
 refine EvC.skip ?_
 refine EvC.seq ?_
 refine EvC.block ?_
 have hwe : tw.isEmpty = false := by
  cases tw with
  | nil => simp at e1
  | cons _ _ => rfl
 have htk : tw.take (j + 1) ≠ [] := fun h => by
  have h2 : (tw.take (j + 1)).length = 0 := by rw [h]; rfl
  rw [List.length_take] at h2; omega
 have hadd := add76_is false A .unk (tw.take (j + 1)) (by omega) ham htk (by rw [List.length_take]; omega)
 have htm : List.take (j + 1) (tw.map intC) = (tw.take (j + 1)).map intC := (List.map_take ..).symm
 apply EvC.tr
 ·apply Tr.run
  ·simp only [go_sem, traceC, List.length_map, hj1, htm, hwe] <;> rfl
  ·simp [intC]; exact ⟨inI64_of (by omega) (by omega), by omega⟩
  apply Tr.cons
  ·exact .call rfl rfl (by simp only [go_sem] <;> rfl) (by simp only [go_sem] <;> rfl) (by simp only [go_sem] <;> rfl) (by simp only [go_sem] <;> rfl) (by simp only [go_sem] <;> rfl) (hadd)
  apply Tr.done
  ·simp only [go_sem, traceC] <;> rfl
  ·simp
 refine EvC.rg (by simp only [go_sem] <;> rfl) (by exact inI64_of (by omega) (by omega)) ?_
 exact ⟨[], j + 1, rfl, (by rw [hsucc]; simp only [go_sem, Int.natCast_add, Int.natCast_one, traceC, hwe] <;> rfl), by omega, by omega⟩
end Go.Avl
namespace Go.Avl
open Go Go.Proofs.Try
set_option maxRecDepth 10000
set_option linter.unusedSimpArgs false
def posOf (N : List (List Int)) (w : List Int) : Int := if N.idxOf w < N.length then (N.idxOf w : Int) else -1
def edgeOf (L : List TR) (N : List (List Int)) (w : List Int) : Int × Int := match lastL L w with
 | none => (-1, -1)
 | some n => if n = -1 then (-1, -2) else (posOf N w, n)
def treeRow (L : List TR) (N : List (List Int)) (x : List Int) (k : Nat) : List (Int × Int) := (List.range k).map fun (j : Nat) => edgeOf L N (x ++ [(j : Int)])
def treeM (ins : Nat) (outs : Int) (L : List TR) : Mach := ⟨ins, outs, false, (nodesL L).map fun x => (false, treeRow L (nodesL L) x ins)⟩
theorem nodesL_ne (L : List TR) (hL : ∀ t ∈ L, TrOk t) : 1 ≤ (nodesL L).length := by
 have key : ∀ (t : TR) (l : List (List Int)), 1 ≤ l.length → ∀ k, 1 ≤ (addP t l k).length := fun t l h k => by
  induction k with
  | zero => exact h
  | succ k ih =>
    rw [addP_succ]
    cases h2 : addP t l k with
    | nil => simp [addL]
    | cons y r => rw [addL]; simp only [List.length_append, List.length_cons]; omega
 have : ∀ (L : List TR) (l : List (List Int)), 1 ≤ l.length → 1 ≤ (L.foldl (fun l t => addP t l (preN t.r)) l).length := fun L => by
  induction L with
  | nil => intro l h; exact h
  | cons t L ih => intro l h; exact ih _ (key t l h _)
 exact this L [[]] (by simp)
set_option maxHeartbeats 8000000 in
theorem tree27_is (i : Nat) (o : Int) (nl : Bool) (L : List TR) (c : Cp) (hL : ∀ t ∈ L, TrOk t) (hl : L.length ≤ 900) (hi : 1 ≤ i ∧ i ≤ 1000) :
  PureIs prog 27 [.ag [.sc (.int .i64 i), .sc (.int .i64 o), .sl nl (L.map traceC) c]] (.ag (treeM i o L).cells) := by
 have hN := nodes61_is i o nl L c hL hl
 have hne := nodesL_ne L hL
 have hfin : nodesTo L L.length = nodesL L := by rw [nodesTo, List.take_length]; rfl
 have hnl := nodesTo_len hL L.length (Nat.le_refl _)
 have hnm := nodesTo_mem hL L.length (Nat.le_refl _)
 rw [hfin] at hnl hnm
 unfold treeM
 generalize nodesL L = N at hN hne hnl hnm
 refine PureIs.of (nv := 1) (hid := [1, 2, 3, 4, 5, 6, 7, 8, 9, 10, 21, 27, 53, 60]) func27 rfl (by kernel_rfl) (by simp [ntmps27]) fun _ => ?_
 rw [ntmps27, results27]
 refine EvC.seq (EvC.rg (by simp only [go_sem] <;> rfl) (by simp) ?_)
 refine EvC.frzB 0 (by simp only [go_sem] <;> rfl) ?_
 apply EvC.seq
 apply EvC.tr
 ·apply Tr.run
  ·simp only [go_sem] <;> rfl
  ·simp
  apply Tr.cons
  ·exact .call rfl rfl (by simp only [go_sem] <;> rfl) (by simp only [go_sem] <;> rfl) (by simp only [go_sem] <;> rfl) (by simp only [go_sem] <;> rfl) (by simp only [go_sem] <;> rfl) (hN)
  apply Tr.done
  ·simp only [go_sem] <;> rfl
  ·simp
 refine EvC.seq (EvC.rg (by simp only [go_sem] <;> rfl) (by simp) ?_)
 refine EvC.seq ?_
 refine EvC.seq (EvC.rg (by simp only [go_sem] <;> rfl) (by simp) ?_)
 refine EvC.ownC 10 2 1 (by simp only [go_sem] <;> rfl) ?_
 refine EvC.block ?_
 refine EvC.loopS (σ := Nat) (fun s => ⟨[(1, .ia [.sc (.int .i64 i), .sc (.int .i64 o), .sl nl (L.map traceC) c]), (2, .rf 0 0), (3, .sl false (N.map nwC) .unk), (4, .rf 1 0), (5, .sc (.int .i64 s))], [],
   [(0, .cells [.sc (.int .i64 0), .sc (.int .i64 0), .sl true [] .zer]), (1, .cells [.sc (.int .i64 i), .sc (.int .i64 o), .tl 2 s (s == 0)]), (2, .arr 1 (((N.take s).map fun x => treeRow L N x i).map rowF) true)], 3⟩) (fun s => N.length - s)
  (fun s => s ≤ N.length) [1, 2, 3, 4, 5] 3 ?_ ?_
 ·exact ⟨[(1, 0), (10, 1), (13, 2)], 0, rfl, (by simp only [go_sem, Int.natCast_zero, List.take_zero, List.map_nil] <;> rfl), Nat.zero_le _⟩
 intro s hs
 have hsin : (s : Int).toNat = s := Int.toNat_natCast s
 have hls : (((N.take s).map fun x => treeRow L N x i).map rowF).length = s := by simp; omega
 refine EvC.seq ?_
 refine EvC.seq (EvC.rg (by simp only [go_sem, List.length_map] <;> rfl) (by simp) ?_)
 refine EvC.cond (by simp only [go_sem] <;> rfl) (fun hc => ?_) (fun hc => ?_)
 rotate_left
 ·
  have hc : ¬ s < N.length := by simpa using hc
  obtain rfl : s = N.length := by omega
  refine EvC.exit ?_
  refine EvC.frzD 2 (by simp only [go_sem, hls] <;> rfl) ?_
  refine EvC.seq (EvC.rg (by simp only [go_sem] <;> rfl) (by simp) ?_)
  refine EvC.ret ⟨.inl rfl, _, (by simp only [go_sem] <;> rfl), ?_, rfl⟩
  simp only [go_sem]
  have hne : (N.length == 0) = false := beq_eq_false_iff_ne.2 (by omega)
  simp only [Mach.cells, hne, List.take_length]
  rw [List.map_map, List.map_map]
  rfl
 have hc : s < N.length := by simpa using hc
 refine EvC.skip ?_
 refine EvC.seq ?_
 refine EvC.block ?_
 have hx : N[s]? = some (N[s]'hc) := List.getElem?_eq_getElem hc
 have hxl := hnm _ (List.getElem_mem hc)
 have hnext : (N.take (s + 1)).map (fun x => treeRow L N x i) = (N.take s).map (fun x => treeRow L N x i) ++ [treeRow L N (N[s]'hc) i] := by
  rw [List.take_succ_eq_append_getElem hc, List.map_append]; rfl
 generalize N[s]'hc = x at hx hxl hnext
 refine EvC.seq (EvC.rg (by simp only [go_sem] <;> rfl) (by simp) ?_)
 refine EvC.seq ?_
 refine EvC.seq (EvC.rg (by simp only [go_sem] <;> rfl) (by simp) ?_)
 refine EvC.thaw 7 (by simp only [go_sem] <;> rfl) ?_
 refine EvC.block ?_
 refine EvC.loopS (σ := Nat) (fun k => ⟨[(1, .ia [.sc (.int .i64 i), .sc (.int .i64 o), .sl nl (L.map traceC) c]), (2, .rf 0 0), (3, .sl false (N.map nwC) .unk), (4, .rf 1 0), (5, .sc (.int .i64 s)), (6, .tl 3 k (k == 0)), (7, .sc (.int .i64 k))], [],
   [(0, .cells [.sc (.int .i64 0), .sc (.int .i64 0), .sl true [] .zer]), (1, .cells [.sc (.int .i64 i), .sc (.int .i64 o), .tl 2 s (s == 0)]), (2, .arr 1 (((N.take s).map fun x => treeRow L N x i).map rowF) true), (3, .arr 2 ((treeRow L N x k).map edgeC) false)], 4⟩) (fun k => i - k)
  (fun k => k ≤ i) [1, 2, 3, 4, 5, 6, 7] 4 ?_ ?_
 ·exact ⟨[(0, 0), (1, 1), (2, 2), (7, 3)], 0, rfl, (by simp only [go_sem, Int.natCast_zero, treeRow, List.range_zero, List.map_nil] <;> rfl), Nat.zero_le _⟩
 intro k hk
 have hkin : (k : Int).toNat = k := Int.toNat_natCast k
 have hlk : ((treeRow L N x k).map edgeC).length = k := by simp [treeRow]
 refine EvC.seq ?_
 refine EvC.seq (EvC.rg (by simp only [go_sem] <;> rfl) (by simp) ?_)
 refine EvC.cond (by simp only [go_sem] <;> rfl) (fun hd => ?_) (fun hd => ?_)
 rotate_left
 ·
  have hd : ¬ k < i := by simpa using hd
  obtain rfl : k = i := by omega
  have hne2 : (k == 0) = false := beq_eq_false_iff_ne.2 (by omega)
  refine EvC.exit ?_
  refine EvC.frz 3 (by simp only [go_sem, hlk, hne2] <;> rfl) ?_
  have htl : (N.take s).length = s := by rw [List.length_take]; omega
  have hr2 : room (s + 1) 24 = true := by simp only [room_eq, decide_eq_true_eq]; omega
  refine EvC.rg (by simp only [go_sem] <;> rfl) (by simp [hls, AV.norefs, AV.noref]; rw [Nat.min_eq_left (by omega)]; exact ⟨rfl, hr2⟩) ?_
  refine EvC.rg (by simp only [go_sem] <;> rfl) (by exact inI64_of (by omega) (by omega)) ?_
  refine ⟨[(0, 0), (1, 1), (2, 2)], s + 1, rfl, ?_, by omega, by omega⟩
  have hs0 : (s + 1 == 0) = false := rfl
  rw [hnext]
  simp only [go_sem, hs0, htl, Int.natCast_add, Int.natCast_one, List.map_append, List.map_cons, List.map_nil, rowF, rowC] <;> rfl
 have hd : k < i := by simpa using hd
 refine EvC.skip ?_
 refine EvC.seq ?_
 refine EvC.block ?_
 obtain ⟨w, hw⟩ : ∃ w, w = x ++ [(k : Int)] := ⟨_, rfl⟩
 have hwne : w ≠ [] := by rw [hw]; simp
 have hwl : w.length ≤ 1001 := by rw [hw]; simp; omega
 have hrow : treeRow L N x (k + 1) = treeRow L N x k ++ [edgeOf L N w] := by rw [treeRow, List.range_succ, List.map_append, hw]; rfl
 refine EvC.mergeC (α := Unit) (fun _ => ⟨[(1, .ia [.sc (.int .i64 i), .sc (.int .i64 o), .sl nl (L.map traceC) c]), (2, .rf 0 0), (3, .sl false (N.map nwC) .unk), (4, .rf 1 0), (5, .sc (.int .i64 s)), (6, .tl 3 k (k == 0)), (7, .sc (.int .i64 k)), (8, .sl false (w.map intC) .unk)], [],
  [(0, .cells [.sc (.int .i64 0), .sc (.int .i64 0), .sl true [] .zer]), (1, .cells [.sc (.int .i64 i), .sc (.int .i64 o), .tl 2 s (s == 0)]), (2, .arr 1 (((N.take s).map fun x => treeRow L N x i).map rowF) true), (3, .arr 2 ((treeRow L N x k).map edgeC) false)], 4⟩) (fun _ => True) ?_ ?_
 ·by_cases hx0 : x = []
  ·subst hx0
   have hx1 : (N.map nwC)[s]? = some [.sl false [] .unk] := by rw [List.getElem?_map, hx]; rfl
   apply EvC.tr
   ·apply Tr.cons
    ·exact .op rfl (by simp only [go_sem] <;> rfl) (by simp only [go_sem] <;> rfl) rfl (by simp only [go_sem] <;> rfl)
    apply Tr.cons
    ·exact .op rfl (by simp only [go_sem] <;> rfl) (by simp only [go_sem] <;> rfl) rfl (by simp only [go_sem] <;> rfl)
    apply Tr.cons
    ·exact .op rfl (by simp only [go_sem] <;> rfl) (by simp only [go_sem] <;> rfl) rfl (by simp only [go_sem] <;> rfl)
    apply Tr.cons
    ·exact .op rfl (by simp only [go_sem] <;> rfl) (by simp only [go_sem, List.length_map, hsin, hx1] <;> rfl) rfl (by simp only [go_sem] <;> rfl)
    apply Tr.cons
    ·exact .op rfl (by simp only [go_sem] <;> rfl) (by simp only [go_sem] <;> rfl) rfl (by simp only [go_sem] <;> rfl)
    apply Tr.cons
    ·exact .appZ rfl rfl (by simp only [go_sem] <;> rfl) (by simp only [go_sem] <;> rfl) (by simp only [go_sem] <;> rfl) (by simp only [go_sem] <;> rfl) (by simp only [go_sem] <;> rfl) (by simp only [go_sem] <;> rfl) (by simp only [go_sem] <;> rfl)
    apply Tr.done
    ·simp only [go_sem] <;> rfl
    ·simp [room_eq]
   have hw1 : w.map intC = [[.sc (.int .i64 k)]] := by rw [hw]; rfl
   rw [hw1]
   exact ⟨rfl, (), trivial, fun c Q h => EvC.frz 16 (by simp only [go_sem] <;> rfl) (EvC.gcE [1, 2, 3, 4, 5, 6, 7, 8] [(0, 0), (1, 1), (2, 2), (3, 3)] 4 rfl (by simp only [go_sem] <;> rfl) h)⟩
  have hy : ∀ a ∈ x, (intC a).length = 1 := fun _ _ => rfl
  have hxn : (N.map nwC)[s]? = some [.sl false (x.map intC) .unk] := by rw [List.getElem?_map, hx]; rfl
  have hr3 : room x.length 8 = true := by simp only [room_eq, decide_eq_true_eq]; omega
  have hr4 : room (x.length + 1) 8 = true := by simp only [room_eq, decide_eq_true_eq]; omega
  have hsn : x.map intC ++ [[.sc (.int .i64 k)]] = w.map intC := by rw [hw]; simp [intC]
  have hsl : x.length + 1 = w.length := by rw [hw]; simp
  have hx0l : x.length ≠ 0 := fun h => hx0 (List.length_eq_zero_iff.1 h)
  refine EvC.rg (by simp only [go_sem, hxn, hsin, hsn, hsl, List.length_map] <;> rfl) (by simp; exact ⟨⟨hr3, hy⟩, by rw [← hsl]; exact hr4⟩) ?_
  exact ⟨rfl, (), trivial, fun c Q h => EvC.frz 13 (by simp only [go_sem, List.length_map] <;> rfl) (EvC.gcE [1, 2, 3, 4, 5, 6, 7, 8] [(0, 0), (1, 1), (2, 2), (3, 3)] 4 rfl (by simp only [go_sem] <;> rfl) h)⟩
 intro _ _
 have hLa := last62_is i o nl L c false w .unk hL (by omega) hwne (by omega)
 have hed : edgeOf L N w = match lastL L w with | none => (-1, -1) | some n => if n = -1 then (-1, -2) else (posOf N w, n) := rfl
 rw [lastN] at hLa
 have hlk1 : ((treeRow L N x (k + 1)).map edgeC).length = k + 1 := by simp [treeRow]
 have hr5 : room (k + 1) 16 = true := by simp only [room_eq, decide_eq_true_eq]; omega
 have hset : ∀ e : Int × Int, edgeOf L N w = e → (treeRow L N x k).map edgeC ++ [[.sc (.int .i64 e.1), .sc (.int .i64 e.2)]] = (treeRow L N x (k + 1)).map edgeC := fun e he => by rw [hrow, he, List.map_append]; rfl
 have hT2l : (treeRow L N x (k + 1)).length = k + 1 := by simp [treeRow]
 have hk0 : (k + 1 == 0) = false := rfl
 generalize hT2 : treeRow L N x (k + 1) = T2 at hrow hlk1 hset hT2l
 cases hll : lastL L w with
 | none =>
   rw [hll] at hLa hed
   rw [show (none : Option Int).getD 0 = 0 from rfl, show (none : Option Int).isSome = false from rfl] at hLa
   have hs := hset _ hed
   simp only at hs
   apply EvC.seq
   apply EvC.tr
   ·apply Tr.run
    ·simp only [go_sem] <;> rfl
    ·simp
    apply Tr.cons
    ·exact .call rfl rfl (by simp only [go_sem] <;> rfl) (by simp only [go_sem] <;> rfl) (by simp only [go_sem] <;> rfl) (by simp only [go_sem] <;> rfl) (by simp only [go_sem] <;> rfl) (hLa)
    apply Tr.done
    ·simp only [go_sem] <;> rfl
    ·simp
   refine EvC.block ?_
   refine EvC.seq (EvC.rg (by simp only [go_sem] <;> rfl) (by simp) ?_)
   refine EvC.cond_true (by simp only [go_sem] <;> rfl) ?_
   refine EvC.rg (by simp only [go_sem, hlk, hs] <;> rfl) (by simp [hlk, hr5]) ?_
   refine EvC.rg (by simp only [go_sem] <;> rfl) (by exact inI64_of (by omega) (by omega)) ?_
   exact ⟨[(0, 0), (1, 1), (2, 2), (3, 3)], k + 1, rfl, (by rw [hT2]; simp only [go_sem, hT2l, hk0, Int.natCast_add, Int.natCast_one] <;> rfl), by omega, by omega⟩
 | some n =>
   rw [hll] at hLa hed
   rw [show (some n).getD 0 = n from rfl, show (some n).isSome = true from rfl] at hLa
   simp only at hed
   by_cases hn : n = -1
   ·rw [if_pos hn] at hed
    have hs := hset _ hed
    simp only at hs
    apply EvC.seq
    apply EvC.tr
    ·apply Tr.run
     ·simp only [go_sem] <;> rfl
     ·simp
     apply Tr.cons
     ·exact .call rfl rfl (by simp only [go_sem] <;> rfl) (by simp only [go_sem] <;> rfl) (by simp only [go_sem] <;> rfl) (by simp only [go_sem] <;> rfl) (by simp only [go_sem] <;> rfl) (hLa)
     apply Tr.done
     ·simp only [go_sem] <;> rfl
     ·simp
    refine EvC.block ?_
    refine EvC.seq (EvC.rg (by simp only [go_sem] <;> rfl) (by simp) ?_)
    refine EvC.cond_false (by simp only [go_sem] <;> rfl) ?_
    refine EvC.seq (EvC.rg (by simp only [go_sem] <;> rfl) (by simp) ?_)
    refine EvC.cond_true (by simp only [go_sem, decide_eq_true hn] <;> rfl) ?_
    refine EvC.rg (by simp only [go_sem, hlk, hs] <;> rfl) (by simp [hlk, hr5]) ?_
    refine EvC.rg (by simp only [go_sem] <;> rfl) (by exact inI64_of (by omega) (by omega)) ?_
    exact ⟨[(0, 0), (1, 1), (2, 2), (3, 3)], k + 1, rfl, (by rw [hT2]; simp only [go_sem, hT2l, hk0, Int.natCast_add, Int.natCast_one] <;> rfl), by omega, by omega⟩
   rw [if_neg hn] at hed
   have hs := hset _ hed
   simp only at hs
   have hF := find63_is false N .unk false w .unk (by omega) (fun y hy => by have := hnm y hy; omega)
   rw [show (if N.idxOf w < N.length then (N.idxOf w : Int) else -1) = posOf N w from rfl] at hF
   generalize posOf N w = pw at hF hs
   apply EvC.seq
   apply EvC.tr
   ·apply Tr.run
    ·simp only [go_sem] <;> rfl
    ·simp
    apply Tr.cons
    ·exact .call rfl rfl (by simp only [go_sem] <;> rfl) (by simp only [go_sem] <;> rfl) (by simp only [go_sem] <;> rfl) (by simp only [go_sem] <;> rfl) (by simp only [go_sem] <;> rfl) (hLa)
    apply Tr.done
    ·simp only [go_sem] <;> rfl
    ·simp
   refine EvC.block ?_
   refine EvC.seq (EvC.rg (by simp only [go_sem] <;> rfl) (by simp) ?_)
   refine EvC.cond_false (by simp only [go_sem] <;> rfl) ?_
   refine EvC.seq (EvC.rg (by simp only [go_sem] <;> rfl) (by simp) ?_)
   refine EvC.cond_false (by simp only [go_sem, decide_eq_false hn] <;> rfl) ?_
   apply EvC.tr
   ·apply Tr.run
    ·simp only [go_sem, hlk] <;> rfl
    ·simp
    apply Tr.cons
    ·exact .call rfl rfl (by simp only [go_sem] <;> rfl) (by simp only [go_sem] <;> rfl) (by simp only [go_sem] <;> rfl) (by simp only [go_sem] <;> rfl) (by simp only [go_sem] <;> rfl) (hF)
    apply Tr.done
    ·simp only [go_sem, hlk, hs] <;> rfl
    ·simp [hlk, hr5]
   refine EvC.rg (by simp only [go_sem] <;> rfl) (by exact inI64_of (by omega) (by omega)) ?_
   exact ⟨[(0, 0), (1, 1), (2, 2), (3, 3)], k + 1, rfl, (by rw [hT2]; simp only [go_sem, hT2l, hk0, Int.natCast_add, Int.natCast_one] <;> rfl), by omega, by omega⟩
end Go.Avl
namespace Go.Avl
open Go Go.Proofs.Try
set_option maxRecDepth 10000
set_option linter.unusedSimpArgs false
def okLog (L : List TR) : List TR := if conB L then [] else L
set_option maxHeartbeats 4000000 in
theorem tree11_is (i : Nat) (o : Int) (nl : Bool) (L : List TR) (c : Cp) (hL : ∀ t ∈ L, TrOk t) (hl : L.length ≤ 900) (hi : 1 ≤ i ∧ i ≤ 1000) :
  PureIs prog 11 [.ag [.sc (.int .i64 i), .sc (.int .i64 o), .sl nl (L.map traceC) c]] (.ag (treeM i o (okLog L)).cells) := by
 have hC := contra25_is i o nl L c hL (by omega)
 unfold okLog conB
 have hT := tree27_is i o nl L c hL hl hi
 have hE := tree27_is i o true [] .zer (fun _ h => by cases h) (by simp) hi
 generalize conR L = r at hC
 obtain ⟨r1, r2, r3, rb⟩ := r
 simp only at hC ⊢
 refine PureIs.of (nv := 1) (hid := [1, 2, 3, 4, 10]) func11 rfl (by kernel_rfl) (by simp [ntmps11]) fun _ => ?_
 rw [ntmps11, results11]
 refine EvC.seq (EvC.rg (by simp only [go_sem] <;> rfl) (by simp) ?_)
 refine EvC.seq ?_
 apply EvC.seq
 apply EvC.tr
 ·apply Tr.run
  ·simp only [go_sem] <;> rfl
  ·simp
  apply Tr.cons
  ·exact .call rfl rfl (by simp only [go_sem] <;> rfl) (by simp only [go_sem] <;> rfl) (by simp only [go_sem] <;> rfl) (by simp only [go_sem] <;> rfl) (by simp only [go_sem] <;> rfl) (hC)
  apply Tr.done
  ·simp only [go_sem] <;> rfl
  ·simp
 refine EvC.seq (EvC.rg (by simp only [go_sem] <;> rfl) (by simp) ?_)
 cases rb with
 | true =>
   rw [if_pos rfl]
   generalize treeM i o [] = T at hE
   rw [Mach.cells] at hE ⊢
   refine EvC.cond_true (by simp only [go_sem] <;> rfl) ?_
   refine EvC.rg (by simp only [go_sem] <;> rfl) (by simp) ?_
   apply EvC.seq
   apply EvC.tr
   ·apply Tr.run
    ·simp only [go_sem] <;> rfl
    ·simp
    apply Tr.cons
    ·exact .call rfl rfl (by simp only [go_sem] <;> rfl) (by simp only [go_sem] <;> rfl) (by simp only [go_sem] <;> rfl) (by simp only [go_sem] <;> rfl) (by simp only [go_sem] <;> rfl) (hE)
    apply Tr.done
    ·simp only [go_sem] <;> rfl
    ·simp
   refine EvC.ret ⟨.inl rfl, _, (by simp only [go_sem] <;> rfl), ?_, rfl⟩
   simp only [go_sem]
 | false =>
   rw [if_neg (by simp)]
   generalize treeM i o L = T at hT
   rw [Mach.cells] at hT ⊢
   refine EvC.cond_false (by simp only [go_sem] <;> rfl) ?_
   refine EvC.skip ?_
   apply EvC.seq
   apply EvC.tr
   ·apply Tr.run
    ·simp only [go_sem] <;> rfl
    ·simp
    apply Tr.cons
    ·exact .call rfl rfl (by simp only [go_sem] <;> rfl) (by simp only [go_sem] <;> rfl) (by simp only [go_sem] <;> rfl) (by simp only [go_sem] <;> rfl) (by simp only [go_sem] <;> rfl) (hT)
    apply Tr.done
    ·simp only [go_sem] <;> rfl
    ·simp
   refine EvC.ret ⟨.inl rfl, _, (by simp only [go_sem] <;> rfl), ?_, rfl⟩
   simp only [go_sem]
end Go.Avl
namespace Go.Avl
open Go Go.Proofs.Try
set_option maxRecDepth 10000
set_option linter.unusedSimpArgs false
def knownE (e : Int × Int) : Bool := !decide (e.1 = -1) || decide (e.2 = -2)
def clashE (a b : Int × Int) : Bool := knownE a && knownE b && ((decide (a.1 = -1) != decide (b.1 = -1)) || (!decide (a.1 = -1) && !decide (a.2 = b.2)))
def bothE (a b : Int × Int) : Bool := !decide (a.1 = -1) && !decide (b.1 = -1)
theorem knownE_if (e : Int × Int) : (if (!decide (e.1 = -1)) = true then true else decide (e.2 = -2)) = knownE e := by
 unfold knownE; cases decide (e.1 = -1) <;> rfl
theorem known55_is (t o : Int) : PureIs prog 55 [.ag [.sc (.int .i64 t), .sc (.int .i64 o)]] (.sc (.bool (knownE (t, o)))) := by
 rw [← knownE_if]
 simp only
 refine PureIs.of (nv := 1) (hid := [1, 2]) func55 rfl (by kernel_rfl) (by simp [ntmps55]) fun _ => ?_
 rw [ntmps55, results55]
 refine EvC.seq (EvC.rg (by simp only [go_sem] <;> rfl) (by simp) ?_)
 refine EvC.seq ?_
 apply EvC.trd
 ·simp only [go_sem] <;> rfl
 ·simp
 refine EvC.ret ⟨.inl rfl, _, (by simp only [go_sem] <;> rfl), ?_, rfl⟩
 simp only [go_sem]
end Go.Avl
namespace Go.Avl
open Go Go.Proofs.Try
set_option maxRecDepth 10000
set_option linter.unusedSimpArgs false
theorem clash38_is (t o u p : Int) : PureIs prog 38 [.ag [.sc (.int .i64 t), .sc (.int .i64 o)], .ag [.sc (.int .i64 u), .sc (.int .i64 p)]] (.sc (.bool (clashE (t, o) (u, p)))) := by
 have hA := known55_is t o
 have hB := known55_is u p
 have hcl : clashE (t, o) (u, p) = (knownE (t, o) && knownE (u, p) && ((decide (t = -1) != decide (u = -1)) || (!decide (t = -1) && !decide (o = p)))) := rfl
 rw [hcl]
 generalize knownE (t, o) = ka at hA
 generalize knownE (u, p) = kb at hB
 refine PureIs.of (nv := 2) (hid := [2, 3, 4]) func38 rfl (by kernel_rfl) (by simp [ntmps38]) fun _ => ?_
 rw [ntmps38, results38]
 refine EvC.seq (EvC.rg (by simp only [go_sem] <;> rfl) (by simp) ?_)
 refine EvC.seq ?_
 cases ka with
 | false =>
   apply EvC.tr
   ·apply Tr.run
    ·simp only [go_sem] <;> rfl
    ·simp
    apply Tr.cons
    ·exact .call rfl rfl (by simp only [go_sem] <;> rfl) (by simp only [go_sem] <;> rfl) (by simp only [go_sem] <;> rfl) (by simp only [go_sem] <;> rfl) (by simp only [go_sem] <;> rfl) (hA)
    apply Tr.run
    ·simp only [go_sem] <;> rfl
    ·simp
    apply Tr.cons
    ·exact .skipv ((.sc (.bool false))) rfl rfl (by simp only [go_sem] <;> rfl) (by simp only [go_sem] <;> rfl)
    apply Tr.done
    ·simp only [go_sem] <;> rfl
    ·simp
   refine EvC.ret ⟨.inl rfl, _, (by simp only [go_sem] <;> rfl), ?_, rfl⟩
   simp only [go_sem]
 | true =>
   cases kb with
   | false =>
     apply EvC.tr
     ·apply Tr.run
      ·simp only [go_sem] <;> rfl
      ·simp
      apply Tr.cons
      ·exact .call rfl rfl (by simp only [go_sem] <;> rfl) (by simp only [go_sem] <;> rfl) (by simp only [go_sem] <;> rfl) (by simp only [go_sem] <;> rfl) (by simp only [go_sem] <;> rfl) (hA)
      apply Tr.run
      ·simp only [go_sem] <;> rfl
      ·simp
      apply Tr.cons
      ·exact .callG rfl rfl (by simp only [go_sem] <;> rfl) rfl (by simp only [go_sem] <;> rfl) (by simp only [go_sem] <;> rfl) (by simp only [go_sem] <;> rfl) (by simp only [go_sem] <;> rfl) (by simp only [go_sem] <;> rfl) (hB)
      apply Tr.done
      ·simp only [go_sem] <;> rfl
      ·simp
     refine EvC.ret ⟨.inl rfl, _, (by simp only [go_sem] <;> rfl), ?_, rfl⟩
     simp only [go_sem]
   | true =>
     have h : (if (!(decide (t = -1) == decide (u = -1))) = true then true else if (!decide (t = -1)) = true then !decide (o = p) else false) = (true && true && ((decide (t = -1) != decide (u = -1)) || (!decide (t = -1) && !decide (o = p)))) := by
      cases decide (t = -1) <;> cases decide (u = -1) <;> rfl
     rw [← h]
     apply EvC.tr
     ·apply Tr.run
      ·simp only [go_sem] <;> rfl
      ·simp
      apply Tr.cons
      ·exact .call rfl rfl (by simp only [go_sem] <;> rfl) (by simp only [go_sem] <;> rfl) (by simp only [go_sem] <;> rfl) (by simp only [go_sem] <;> rfl) (by simp only [go_sem] <;> rfl) (hA)
      apply Tr.run
      ·simp only [go_sem] <;> rfl
      ·simp
      apply Tr.cons
      ·exact .callG rfl rfl (by simp only [go_sem] <;> rfl) rfl (by simp only [go_sem] <;> rfl) (by simp only [go_sem] <;> rfl) (by simp only [go_sem] <;> rfl) (by simp only [go_sem] <;> rfl) (by simp only [go_sem] <;> rfl) (hB)
      apply Tr.done
      ·simp only [go_sem] <;> rfl
      ·simp
     refine EvC.ret ⟨.inl rfl, _, (by simp only [go_sem] <;> rfl), ?_, rfl⟩
     simp only [go_sem]
end Go.Avl
namespace Go.Avl
open Go Go.Proofs.Try
set_option maxRecDepth 10000
set_option linter.unusedSimpArgs false
def rowT (outs : Int) : List (Int × Int) → Int → Option Int
 | [], nx => some nx
 | e :: r, nx => if e.1 = -1 ∧ (e.2 = -1 ∨ e.2 = -2) then rowT outs r nx else if e.1 = nx ∧ 0 ≤ e.2 ∧ e.2 < outs then rowT outs r (nx + 1) else none
def rowsT (ins outs : Int) : List Row → Int → Int → Option Int
 | [], _, nx => some nx
 | r :: rs, n, nx => if (r.2.length : Int) ≠ ins ∨ nx ≤ n then none else match rowT outs r.2 nx with
   | none => none
   | some nx' => rowsT ins outs rs (n + 1) nx'
def checkT (t : Mach) : Int :=
 if 16 < t.ins ∨ 16 < t.outs ∨ 65537 < (t.rows.length : Int) then 3
 else if t.ins < 1 ∨ t.outs < 1 ∨ (t.rows.length : Int) < 1 then 1
 else match rowsT t.ins t.outs t.rows 0 1 with
  | some nx => if nx = t.rows.length then 0 else 1
  | none => 1
theorem rowT_drop {outs : Int} {r : List (Int × Int)} {i : Nat} (h : i < r.length) {e : Int × Int} (he : r[i]? = some e) (nx : Int) :
  rowT outs (r.drop i) nx = if e.1 = -1 ∧ (e.2 = -1 ∨ e.2 = -2) then rowT outs (r.drop (i + 1)) nx else if e.1 = nx ∧ 0 ≤ e.2 ∧ e.2 < outs then rowT outs (r.drop (i + 1)) (nx + 1) else none := by
 rw [List.getElem?_eq_getElem h] at he; cases he
 rw [List.drop_eq_getElem_cons h, rowT]
theorem rowsT_drop {ins outs : Int} {rs : List Row} {i : Nat} (h : i < rs.length) {r : Row} (hr : rs[i]? = some r) (n nx : Int) :
  rowsT ins outs (rs.drop i) n nx = if (r.2.length : Int) ≠ ins ∨ nx ≤ n then none else match rowT outs r.2 nx with
   | none => none
   | some nx' => rowsT ins outs (rs.drop (i + 1)) (n + 1) nx' := by
 rw [List.getElem?_eq_getElem h] at hr; cases hr
 rw [List.drop_eq_getElem_cons h, rowsT]
theorem or3 (a b c : Prop) [Decidable a] [Decidable b] [Decidable c] : (if (if decide a = true then true else decide b) = true then true else decide c) = decide (a ∨ b ∨ c) := by
 by_cases ha : a
 ·simp [ha]
 ·by_cases hb : b <;> simp [ha, hb]
theorem rowT_ge {outs : Int} : ∀ {r : List (Int × Int)} {nx nx' : Int}, rowT outs r nx = some nx' → nx ≤ nx' ∧ nx' ≤ nx + r.length
 | [], nx, nx', h => by simp [rowT] at h; subst h; simp
 | e :: r, nx, nx', h => by
   rw [rowT] at h
   split at h
   ·have := rowT_ge h
    simp only [List.length_cons]; omega
   ·split at h
    ·have := rowT_ge h
     simp only [List.length_cons]; omega
    ·cases h
set_option maxHeartbeats 4000000 in
theorem checkT_is (t : Mach) (hr : ∀ r ∈ t.rows, r.2.length < 1000000) : PureIs prog 54 [.ag t.cells] (.sc (.int .i64 (checkT t))) := by
 obtain ⟨ins, outs, nl, rows⟩ := t
 simp only at hr
 unfold checkT
 simp only
 refine PureIs.of (nv := 1) (hid := [1, 2, 3, 4, 5, 7, 21, 35, 37, 38, 39, 40, 53, 54, 55, 56, 57, 60, 74, 99]) func54 rfl (by kernel_rfl) (by simp [ntmps54]) fun _ => ?_
 rw [ntmps54, results54]
 refine EvC.seq (EvC.rg (by simp only [go_sem, Mach.cells] <;> rfl) (by simp) ?_)
 refine EvC.frzB 0 (by simp only [go_sem] <;> rfl) ?_
 refine EvC.seq ?_
 apply EvC.seq
 apply EvC.trd
 ·simp only [go_sem, List.length_map] <;> rfl
 ·simp
 by_cases c1 : 16 < ins ∨ 16 < outs ∨ 65537 < (rows.length : Int)
 ·rw [if_pos c1]
  refine EvC.cond_true (by simp only [go_sem, or3, decide_eq_true c1] <;> rfl) ?_
  refine EvC.seq (EvC.rg (by simp only [go_sem] <;> rfl) (by simp) ?_)
  refine EvC.ret ⟨.inl rfl, _, (by simp only [go_sem] <;> rfl), ?_, rfl⟩
  simp only [go_sem]
 rw [if_neg c1]
 refine EvC.cond_false (by simp only [go_sem, or3, decide_eq_false c1] <;> rfl) ?_
 refine EvC.skip ?_
 refine EvC.seq ?_
 apply EvC.seq
 apply EvC.trd
 ·simp only [go_sem, List.length_map] <;> rfl
 ·simp
 by_cases c2 : ins < 1 ∨ outs < 1 ∨ (rows.length : Int) < 1
 ·rw [if_pos c2]
  refine EvC.cond_true (by simp only [go_sem, or3, decide_eq_true c2] <;> rfl) ?_
  refine EvC.seq (EvC.rg (by simp only [go_sem] <;> rfl) (by simp) ?_)
  refine EvC.ret ⟨.inl rfl, _, (by simp only [go_sem] <;> rfl), ?_, rfl⟩
  simp only [go_sem]
 rw [if_neg c2]
 refine EvC.cond_false (by simp only [go_sem, or3, decide_eq_false c2] <;> rfl) ?_
 refine EvC.skip ?_
 refine EvC.seq (EvC.rg (by simp only [go_sem] <;> rfl) (by simp) ?_)
 refine EvC.seq ?_
 refine EvC.seq (EvC.rg (by simp only [go_sem] <;> rfl) (by simp) ?_)
 refine EvC.block ?_
 refine EvC.loopS (σ := Nat × Int) (fun g => ⟨[(1, .ia [.sc (.int .i64 ins), .sc (.int .i64 outs), .sl nl (rows.map rowC) .unk]), (3, .sc (.int .i64 g.2)), (37, .sl nl (rows.map rowC) .unk), (38, .sc (.int .i64 rows.length)), (39, .sc (.int .i64 g.1))], [], [], 0⟩) (fun g => rows.length - g.1)
  (fun g => g.1 ≤ rows.length ∧ 1 ≤ g.2 ∧ g.2 ≤ 1 + 16 * (g.1 : Int) ∧ rowsT ins outs rows 0 1 = rowsT ins outs (rows.drop g.1) g.1 g.2) [1, 3, 37, 38, 39] 0 ?_ ?_
 ·exact ⟨[], (0, 1), rfl, (by simp only [go_sem, Int.natCast_zero] <;> rfl), Nat.zero_le _, by simp, by simp, rfl⟩
 rintro ⟨i, nx⟩ ⟨h1, h2, h3, h4⟩
 simp only at h1 h2 h3 h4 ⊢
 have hin : (i : Int).toNat = i := Int.toNat_natCast i
 refine EvC.seq (EvC.rg (by simp only [go_sem] <;> rfl) (by simp) ?_)
 refine EvC.seq ?_
 refine EvC.cond (by simp only [go_sem] <;> rfl) (fun hc => ?_) (fun hc => ?_)
 rotate_left
 ·
  have hc : ¬ i < rows.length := by simpa using hc
  rw [List.drop_eq_nil_of_le (by omega), rowsT] at h4
  rw [h4]
  simp only
  refine EvC.exit ?_
  refine EvC.seq ?_
  refine EvC.seq (EvC.rg (by simp only [go_sem, List.length_map] <;> rfl) (by simp) ?_)
  by_cases he : nx = rows.length
  ·rw [if_pos he]
   refine EvC.cond_false (by simp only [go_sem, decide_eq_true he] <;> rfl) ?_
   refine EvC.skip ?_
   refine EvC.seq (EvC.rg (by simp only [go_sem] <;> rfl) (by simp) ?_)
   refine EvC.ret ⟨.inl rfl, _, (by simp only [go_sem] <;> rfl), ?_, rfl⟩
   simp only [go_sem]
  rw [if_neg he]
  refine EvC.cond_true (by simp only [go_sem, decide_eq_false he] <;> rfl) ?_
  refine EvC.seq (EvC.rg (by simp only [go_sem] <;> rfl) (by simp) ?_)
  refine EvC.ret ⟨.inl rfl, _, (by simp only [go_sem] <;> rfl), ?_, rfl⟩
  simp only [go_sem]
 have hc : i < rows.length := by simpa using hc
 refine EvC.skip ?_
 refine EvC.seq ?_
 refine EvC.block ?_
 have hx : rows[i]? = some (rows[i]'hc) := List.getElem?_eq_getElem hc
 have hxl := hr _ (List.getElem_mem hc)
 rw [rowsT_drop hc hx] at h4
 generalize rows[i]'hc = x at hx hxl h4
 obtain ⟨xn, x⟩ := x
 simp only at hxl h4
 refine EvC.seq (EvC.rg (by simp only [go_sem, hx, rowC, hin, List.length_map] <;> rfl) (by simp) ?_)
 refine EvC.seq ?_
 apply EvC.seq
 apply EvC.trd
 ·simp only [go_sem, List.length_map] <;> rfl
 ·simp
 have hcf : (if (!decide ((x.length : Int) = ins)) = true then true else decide (nx ≤ i)) = decide ((x.length : Int) ≠ ins ∨ nx ≤ i) := by
  by_cases h : (x.length : Int) = ins
  ·rw [decide_eq_true h]; simp [h]
  ·rw [decide_eq_false h]; simp [h]
 by_cases hd : (x.length : Int) ≠ ins ∨ nx ≤ i
 ·rw [if_pos hd] at h4
  rw [h4]
  simp only
  refine EvC.cond_true (by simp only [go_sem, hcf, decide_eq_true hd] <;> rfl) ?_
  refine EvC.seq (EvC.rg (by simp only [go_sem] <;> rfl) (by simp) ?_)
  refine EvC.ret ⟨.inl rfl, _, (by simp only [go_sem] <;> rfl), ?_, rfl⟩
  simp only [go_sem]
 rw [if_neg hd] at h4
 refine EvC.cond_false (by simp only [go_sem, hcf, decide_eq_false hd] <;> rfl) ?_
 refine EvC.skip ?_
 refine EvC.seq (EvC.rg (by simp only [go_sem, List.length_map] <;> rfl) (by simp) ?_)
 refine EvC.block ?_
 refine EvC.loopS (σ := Nat × Int) (fun g => ⟨[(1, .ia [.sc (.int .i64 ins), .sc (.int .i64 outs), .sl nl (rows.map rowC) .unk]), (3, .sc (.int .i64 g.2)), (37, .sl nl (rows.map rowC) .unk), (38, .sc (.int .i64 rows.length)), (39, .sc (.int .i64 i)), (54, .sl xn (x.map edgeC) .unk), (55, .sc (.int .i64 x.length)), (56, .sc (.int .i64 g.1))], [], [], 0⟩) (fun g => x.length - g.1)
  (fun g => g.1 ≤ x.length ∧ 1 ≤ g.2 ∧ g.2 ≤ nx + g.1 ∧ rowT outs x nx = rowT outs (x.drop g.1) g.2) [1, 3, 37, 38, 39, 54, 55, 56] 0 ?_ ?_
 ·exact ⟨[], (0, nx), rfl, (by simp only [go_sem, Int.natCast_zero] <;> rfl), Nat.zero_le _, h2, by simp, rfl⟩
 rintro ⟨j, m⟩ ⟨g1, g2, g3, g4⟩
 simp only at g1 g2 g3 g4 ⊢
 have hjin : (j : Int).toNat = j := Int.toNat_natCast j
 refine EvC.seq (EvC.rg (by simp only [go_sem] <;> rfl) (by simp) ?_)
 refine EvC.seq ?_
 refine EvC.cond (by simp only [go_sem] <;> rfl) (fun he => ?_) (fun he => ?_)
 rotate_left
 ·
  have he : ¬ j < x.length := by simpa using he
  rw [List.drop_eq_nil_of_le (by omega), rowT] at g4
  rw [g4] at h4
  simp only at h4
  refine EvC.exit ?_
  refine EvC.rg (by simp only [go_sem] <;> rfl) (by exact inI64_of (by omega) (by omega)) ?_
  exact ⟨[], (i + 1, m), rfl, (by simp only [go_sem, Int.natCast_add, Int.natCast_one] <;> rfl), ⟨by simp only; omega, g2, by simp only; omega, by simp only [Int.natCast_add, Int.natCast_one]; exact h4⟩, by simp only; omega⟩
 have he : j < x.length := by simpa using he
 refine EvC.skip ?_
 refine EvC.seq ?_
 refine EvC.block ?_
 have hy : x[j]? = some (x[j]'he) := List.getElem?_eq_getElem he
 rw [rowT_drop he hy] at g4
 generalize x[j]'he = e at hy g4
 obtain ⟨et, eo⟩ := e
 simp only at g4
 refine EvC.seq (EvC.rg (by simp only [go_sem, hy, edgeC, hjin, List.length_map] <;> rfl) (by simp) ?_)
 refine EvC.frzB 3 (by simp only [go_sem] <;> rfl) ?_
 refine EvC.block ?_
 have hq1 : (if decide (et = -1) = true then (if decide (eo = -1) = true then true else decide (eo = -2)) else false) = decide (et = -1 ∧ (eo = -1 ∨ eo = -2)) := by
  by_cases ha : et = -1
  ·by_cases hb : eo = -1 <;> simp [ha, hb]
  ·simp [ha]
 have hq2 : (if (if decide (et = m) = true then decide (0 ≤ eo) else false) = true then decide (eo < outs) else false) = decide (et = m ∧ 0 ≤ eo ∧ eo < outs) := by
  by_cases ha : et = m
  ·by_cases hb : 0 ≤ eo <;> simp [ha, hb]
  ·simp [ha]
 apply EvC.seq
 apply EvC.trd
 ·simp only [go_sem] <;> rfl
 ·simp
 by_cases q1 : et = -1 ∧ (eo = -1 ∨ eo = -2)
 ·rw [if_pos q1] at g4
  refine EvC.cond_true (by simp only [go_sem, hq1, decide_eq_true q1] <;> rfl) ?_
  refine EvC.skip ?_
  refine EvC.rg (by simp only [go_sem] <;> rfl) (by exact inI64_of (by omega) (by omega)) ?_
  exact ⟨[], (j + 1, m), rfl, (by simp only [go_sem, Int.natCast_add, Int.natCast_one] <;> rfl), ⟨by simp only; omega, g2, by simp only; omega, g4⟩, by simp only; omega⟩
 rw [if_neg q1] at g4
 refine EvC.cond_false (by simp only [go_sem, hq1, decide_eq_false q1] <;> rfl) ?_
 apply EvC.seq
 apply EvC.trd
 ·simp only [go_sem] <;> rfl
 ·simp
 by_cases q2 : et = m ∧ 0 ≤ eo ∧ eo < outs
 ·rw [if_pos q2] at g4
  refine EvC.cond_true (by simp only [go_sem, hq2, decide_eq_true q2] <;> rfl) ?_
  refine EvC.rg (by simp only [go_sem] <;> rfl) (by exact inI64_of (by omega) (by omega)) ?_
  refine EvC.rg (by simp only [go_sem] <;> rfl) (by exact inI64_of (by omega) (by omega)) ?_
  exact ⟨[], (j + 1, m + 1), rfl, (by simp only [go_sem, Int.natCast_add, Int.natCast_one] <;> rfl), ⟨by simp only; omega, by simp only; omega, by simp only; omega, g4⟩, by simp only; omega⟩
 rw [if_neg q2] at g4
 rw [g4] at h4
 simp only at h4
 rw [h4]
 simp only
 refine EvC.cond_false (by simp only [go_sem, hq2, decide_eq_false q2] <;> rfl) ?_
 refine EvC.seq (EvC.rg (by simp only [go_sem] <;> rfl) (by simp) ?_)
 refine EvC.ret ⟨.inl rfl, _, (by simp only [go_sem] <;> rfl), ?_, rfl⟩
 simp only [go_sem]
end Go.Avl
namespace Go.Avl
open Go Go.Proofs.Try
set_option maxRecDepth 10000
set_option linter.unusedSimpArgs false
def inT (n : Nat) (x : Int) : Bool := decide (0 ≤ x ∧ x < n)
def nodesE (t : Mach) (l : List Int) : Int := if checkT t ≠ 0 then checkT t else if l.all (inT t.rows.length) then 0 else 1
theorem all_drop {p : Int → Bool} {l : List Int} {i : Nat} (h : i < l.length) {x : Int} (hx : l[i]? = some x) : (l.drop i).all p = (p x && (l.drop (i + 1)).all p) := by
 rw [List.getElem?_eq_getElem h] at hx; cases hx
 rw [List.drop_eq_getElem_cons h, List.all_cons]
set_option maxHeartbeats 4000000 in
theorem nodes37_is (t : Mach) (hr : ∀ r ∈ t.rows, r.2.length < 1000000) (nl : Bool) (l : List Int) (c : Cp) (hl : l.length < 1000000) :
  PureIs prog 37 [.ag t.cells, .sl nl (l.map intC) c] (.sc (.int .i64 (nodesE t l))) := by
 have hC := checkT_is t hr
 unfold nodesE
 generalize checkT t = e at hC
 rw [Mach.cells] at hC ⊢
 obtain ⟨ins, outs, tn, rows⟩ := t
 simp only at hC hr ⊢
 refine PureIs.of (nv := 2) (hid := [2, 4, 5, 7, 11, 13, 14, 15, 16, 27]) func37 rfl (by kernel_rfl) (by simp [ntmps37]) fun _ => ?_
 rw [ntmps37, results37]
 refine EvC.seq (EvC.rg (by simp only [go_sem] <;> rfl) (by simp) ?_)
 refine EvC.frzB 0 (by simp only [go_sem] <;> rfl) ?_
 refine EvC.seq ?_
 apply EvC.seq
 apply EvC.tr
 ·apply Tr.run
  ·simp only [go_sem] <;> rfl
  ·simp
  apply Tr.cons
  ·exact .call rfl rfl (by simp only [go_sem] <;> rfl) (by simp only [go_sem] <;> rfl) (by simp only [go_sem] <;> rfl) (by simp only [go_sem] <;> rfl) (by simp only [go_sem] <;> rfl) (hC)
  apply Tr.done
  ·simp only [go_sem] <;> rfl
  ·simp
 refine EvC.seq (EvC.rg (by simp only [go_sem] <;> rfl) (by simp) ?_)
 by_cases he : e = 0
 rotate_left
 ·rw [if_pos he]
  refine EvC.cond_true (by simp only [go_sem, decide_eq_false he] <;> rfl) ?_
  refine EvC.seq (EvC.rg (by simp only [go_sem] <;> rfl) (by simp) ?_)
  refine EvC.ret ⟨.inl rfl, _, (by simp only [go_sem] <;> rfl), ?_, rfl⟩
  simp only [go_sem]
 rw [if_neg (fun h => h he)]
 refine EvC.cond_false (by simp only [go_sem, decide_eq_true he] <;> rfl) ?_
 refine EvC.skip ?_
 refine EvC.seq ?_
 refine EvC.seq (EvC.rg (by simp only [go_sem, List.length_map] <;> rfl) (by simp) ?_)
 refine EvC.block ?_
 refine EvC.loopS (σ := Nat) (fun i => ⟨[(2, .ia [.sc (.int .i64 ins), .sc (.int .i64 outs), .sl tn (rows.map rowC) .unk]), (13, .sl nl (l.map intC) c), (14, .sc (.int .i64 l.length)), (15, .sc (.int .i64 i))], [], [], 0⟩) (fun i => l.length - i) (fun i => i ≤ l.length ∧ l.all (inT rows.length) = (l.drop i).all (inT rows.length)) [2, 13, 14, 15] 0 ?_ ?_
 ·exact ⟨[], 0, rfl, (by simp only [go_sem, Int.natCast_zero] <;> rfl), Nat.zero_le _, rfl⟩
 rintro i ⟨h1, h2⟩
 have hin : (i : Int).toNat = i := Int.toNat_natCast i
 refine EvC.seq (EvC.rg (by simp only [go_sem] <;> rfl) (by simp) ?_)
 refine EvC.seq ?_
 refine EvC.cond (by simp only [go_sem] <;> rfl) (fun hc => ?_) (fun hc => ?_)
 rotate_left
 ·
  have hc : ¬ i < l.length := by simpa using hc
  rw [List.drop_eq_nil_of_le (by omega)] at h2
  rw [if_pos (show l.all (inT rows.length) = true by rw [h2]; rfl)]
  refine EvC.exit ?_
  refine EvC.seq (EvC.rg (by simp only [go_sem] <;> rfl) (by simp) ?_)
  refine EvC.ret ⟨.inl rfl, _, (by simp only [go_sem] <;> rfl), ?_, rfl⟩
  simp only [go_sem]
 have hc : i < l.length := by simpa using hc
 refine EvC.skip ?_
 refine EvC.seq ?_
 refine EvC.block ?_
 have hx : l[i]? = some (l[i]'hc) := List.getElem?_eq_getElem hc
 rw [all_drop hc hx] at h2
 generalize l[i]'hc = x at hx h2
 refine EvC.seq (EvC.rg (by simp only [go_sem, hx, intC, hin, List.length_map] <;> rfl) (by simp) ?_)
 have hq : (if decide (x < 0) = true then true else decide ((rows.length : Int) ≤ x)) = !inT rows.length x := by
  unfold inT
  have hB : (decide (0 ≤ x ∧ x < (rows.length : Int))) = (!decide (x < 0) && !decide ((rows.length : Int) ≤ x)) := by
   by_cases ha : x < 0
   ·rw [decide_eq_true ha, decide_eq_false (by omega)]; rfl
   ·by_cases hb : (rows.length : Int) ≤ x
    ·rw [decide_eq_false ha, decide_eq_true hb, decide_eq_false (by omega)]; rfl
    ·rw [decide_eq_false ha, decide_eq_false hb, decide_eq_true (by omega)]; rfl
  rw [hB]
  cases decide (x < 0) <;> cases decide ((rows.length : Int) ≤ x) <;> rfl
 apply EvC.seq
 apply EvC.trd
 ·simp only [go_sem, List.length_map] <;> rfl
 ·simp
 cases hp : inT rows.length x with
 | false =>
   rw [hp] at h2
   rw [if_neg (by rw [h2]; simp)]
   refine EvC.cond_true (by simp only [go_sem, hq, hp] <;> rfl) ?_
   refine EvC.seq (EvC.rg (by simp only [go_sem] <;> rfl) (by simp) ?_)
   refine EvC.ret ⟨.inl rfl, _, (by simp only [go_sem] <;> rfl), ?_, rfl⟩
   simp only [go_sem]
 | true =>
   rw [hp, Bool.true_and] at h2
   refine EvC.cond_false (by simp only [go_sem, hq, hp] <;> rfl) ?_
   refine EvC.skip ?_
   refine EvC.rg (by simp only [go_sem] <;> rfl) (by exact inI64_of (by omega) (by omega)) ?_
   exact ⟨[], i + 1, rfl, (by simp only [go_sem, Int.natCast_add, Int.natCast_one] <;> rfl), ⟨by omega, h2⟩, by omega⟩
end Go.Avl
namespace Go.Avl
open Go Go.Proofs.Try
set_option maxRecDepth 10000
set_option linter.unusedSimpArgs false
structure TV (t : Mach) : Prop where
 ins : 1 ≤ t.ins ∧ t.ins ≤ 16
 outs : 1 ≤ t.outs ∧ t.outs ≤ 16
 rows : 1 ≤ t.rows.length ∧ t.rows.length ≤ 65537
 row : ∀ (i : Nat) (r : Row), t.rows[i]? = some r → (r.2.length : Int) = t.ins ∧ ∀ e ∈ r.2, (e.1 = -1 ∧ (e.2 = -1 ∨ e.2 = -2)) ∨ ((i : Int) < e.1 ∧ e.1 < t.rows.length ∧ 0 ≤ e.2 ∧ e.2 < t.outs)
theorem rowT_edges {outs : Int} : ∀ {r : List (Int × Int)} {nx nx' : Int}, rowT outs r nx = some nx' → ∀ e ∈ r, (e.1 = -1 ∧ (e.2 = -1 ∨ e.2 = -2)) ∨ (nx ≤ e.1 ∧ e.1 < nx' ∧ 0 ≤ e.2 ∧ e.2 < outs)
 | [], _, _, _, e, he => by cases he
 | y :: r, nx, nx', h, e, he => by
   rw [rowT] at h
   split at h
   ·rename_i hy
    rcases List.mem_cons.1 he with rfl | he
    ·exact .inl hy
    ·exact rowT_edges h e he
   ·split at h
    ·rename_i hy
     have hg := rowT_ge h
     rcases List.mem_cons.1 he with rfl | he
     ·exact .inr ⟨by omega, by omega, hy.2⟩
     ·rcases rowT_edges h e he with h1 | ⟨h1, h2⟩
      ·exact .inl h1
      ·exact .inr ⟨by omega, h2⟩
    ·cases h
theorem rowsT_ge {ins outs : Int} : ∀ {rs : List Row} {n nx nx' : Int}, rowsT ins outs rs n nx = some nx' → nx ≤ nx'
 | [], n, nx, nx', h => by simp [rowsT] at h; omega
 | r :: rs, n, nx, nx', h => by
   rw [rowsT] at h
   split at h
   ·cases h
   ·split at h
    ·cases h
    ·rename_i m hm
     have h1 := rowT_ge hm
     have h2 := rowsT_ge h
     omega
theorem rowsT_edges {ins outs : Int} : ∀ {rs : List Row} {n nx nx' : Int}, rowsT ins outs rs n nx = some nx' → ∀ (i : Nat) (r : Row), rs[i]? = some r →
  (r.2.length : Int) = ins ∧ ∀ e ∈ r.2, (e.1 = -1 ∧ (e.2 = -1 ∨ e.2 = -2)) ∨ (n + i < e.1 ∧ e.1 < nx' ∧ 0 ≤ e.2 ∧ e.2 < outs)
 | [], _, _, _, _, i, r, hr => by simp at hr
 | y :: rs, n, nx, nx', h, i, r, hr => by
   rw [rowsT] at h
   split at h
   ·cases h
   ·rename_i hc
    split at h
    ·cases h
    ·rename_i m hm
     have h2 := rowsT_ge h
     cases i with
     | zero =>
       simp at hr; subst hr
       refine ⟨by omega, fun e he => ?_⟩
       rcases rowT_edges hm e he with h3 | ⟨h3, h4, h5⟩
       ·exact .inl h3
       ·exact .inr ⟨by simp; omega, by omega, h5⟩
     | succ i =>
       simp at hr
       have h3 := rowsT_edges h i r hr
       refine ⟨h3.1, fun e he => ?_⟩
       rcases h3.2 e he with h4 | ⟨h4, h5⟩
       ·exact .inl h4
       ·exact .inr ⟨by simp only [Int.natCast_add, Int.natCast_one] at *; omega, h5⟩
theorem TV.of {t : Mach} (h : checkT t = 0) : TV t := by
 unfold checkT at h
 split at h
 ·cases h
 ·rename_i h1
  split at h
  ·cases h
  ·rename_i h2
   split at h
   ·rename_i nx hnx
    split at h
    ·rename_i h3
     subst h3
     refine ⟨by omega, by omega, by omega, fun i r hr => ?_⟩
     have := rowsT_edges hnx i r hr
     simpa using this
    ·cases h
   ·cases h
end Go.Avl
namespace Go.Avl
open Go Go.Proofs.Try
set_option maxRecDepth 10000
set_option linter.unusedSimpArgs false
def eT (t : Mach) (n i : Nat) : Int × Int := ((((t.rows[n]?).map (·.2)).getD [])[i]?).getD (-1, -1)
def compF (t : Mach) : Nat → Nat → Nat → Bool
 | 0, _, _ => true
 | f + 1, a, b => (List.range t.ins.toNat).all fun i => !clashE (eT t a i) (eT t b i) && (!bothE (eT t a i) (eT t b i) || compF t f (eT t a i).1.toNat (eT t b i).1.toNat)
def compB (t : Mach) (a b : Nat) : Bool := compF t (t.rows.length - a) a b
theorem TV.edge {t : Mach} (v : TV t) {n i : Nat} (hn : n < t.rows.length) (hi : (i : Int) < t.ins) :
  ((eT t n i).1 = -1 ∧ ((eT t n i).2 = -1 ∨ (eT t n i).2 = -2)) ∨ ((n : Int) < (eT t n i).1 ∧ (eT t n i).1 < t.rows.length ∧ 0 ≤ (eT t n i).2 ∧ (eT t n i).2 < t.outs) := by
 have h1 := v.row n _ (List.getElem?_eq_getElem hn)
 have hl : i < t.rows[n].2.length := by omega
 have e : eT t n i = t.rows[n].2[i] := by simp [eT, hn, hl]
 rw [e]
 exact h1.2 _ (List.getElem_mem hl)
theorem compF_more {t : Mach} (v : TV t) : ∀ (f g a b : Nat), a < t.rows.length → b < t.rows.length → t.rows.length - a ≤ f → t.rows.length - a ≤ g → compF t f a b = compF t g a b
 | 0, _, a, _, ha, _, hf, _ => by omega
 | _, 0, a, _, ha, _, _, hg => by omega
 | f + 1, g + 1, a, b, ha, hb, hf, hg => by
   rw [compF, compF]
   have : ∀ i ∈ List.range t.ins.toNat, (!clashE (eT t a i) (eT t b i) && (!bothE (eT t a i) (eT t b i) || compF t f (eT t a i).1.toNat (eT t b i).1.toNat)) = (!clashE (eT t a i) (eT t b i) && (!bothE (eT t a i) (eT t b i) || compF t g (eT t a i).1.toNat (eT t b i).1.toNat)) := fun i hi => by
    have hi : (i : Int) < t.ins := by have := List.mem_range.1 hi; omega
    cases hbo : bothE (eT t a i) (eT t b i) with
    | false => rfl
    | true =>
      unfold bothE at hbo
      simp only [Bool.and_eq_true, Bool.not_eq_true', decide_eq_false_iff_not] at hbo
      rcases v.edge ha hi with h1 | h1
      ·exact absurd h1.1 hbo.1
      rcases v.edge hb hi with h2 | h2
      ·exact absurd h2.1 hbo.2
      rw [compF_more v f g _ _ (by omega) (by omega) (by omega) (by omega)]
   rw [Bool.eq_iff_iff, List.all_eq_true, List.all_eq_true]
   exact ⟨fun h i hi => by rw [← this i hi]; exact h i hi, fun h i hi => by rw [this i hi]; exact h i hi⟩
theorem compB_eq {t : Mach} (v : TV t) {a b : Nat} (ha : a < t.rows.length) (hb : b < t.rows.length) :
  compB t a b = (List.range t.ins.toNat).all fun i => !clashE (eT t a i) (eT t b i) && (!bothE (eT t a i) (eT t b i) || compB t (eT t a i).1.toNat (eT t b i).1.toNat) := by
 rw [compB, compF_more v _ (t.rows.length + 1) a b ha hb (Nat.le_refl _) (by omega), compF]
 have : ∀ i ∈ List.range t.ins.toNat, (!clashE (eT t a i) (eT t b i) && (!bothE (eT t a i) (eT t b i) || compF t t.rows.length (eT t a i).1.toNat (eT t b i).1.toNat)) = (!clashE (eT t a i) (eT t b i) && (!bothE (eT t a i) (eT t b i) || compB t (eT t a i).1.toNat (eT t b i).1.toNat)) := fun i hi => by
  have hi : (i : Int) < t.ins := by have := List.mem_range.1 hi; omega
  cases hbo : bothE (eT t a i) (eT t b i) with
  | false => rfl
  | true =>
    unfold bothE at hbo
    simp only [Bool.and_eq_true, Bool.not_eq_true', decide_eq_false_iff_not] at hbo
    rcases v.edge ha hi with h1 | h1
    ·exact absurd h1.1 hbo.1
    rcases v.edge hb hi with h2 | h2
    ·exact absurd h2.1 hbo.2
    rw [compB, compF_more v t.rows.length (t.rows.length - (eT t a i).1.toNat) _ _ (by omega) (by omega) (by omega) (Nat.le_refl _)]
 rw [Bool.eq_iff_iff, List.all_eq_true, List.all_eq_true]
 exact ⟨fun h i hi => by rw [← this i hi]; exact h i hi, fun h i hi => by rw [this i hi]; exact h i hi⟩
end Go.Avl
namespace Go.Avl
open Go Go.Proofs.Try
set_option maxRecDepth 10000
set_option linter.unusedSimpArgs false
def compI (t : Mach) (a b i : Nat) : Bool := !clashE (eT t a i) (eT t b i) && (!bothE (eT t a i) (eT t b i) || compB t (eT t a i).1.toNat (eT t b i).1.toNat)
end Go.Avl
namespace Go.Avl
open Go Go.Proofs.Try
set_option maxRecDepth 10000
set_option linter.unusedSimpArgs false
theorem fdiff_neg : ∀ (a b : List Int), fdiff a b = - fdiff b a
 | [], [] => rfl
 | [], _ :: _ => rfl
 | _ :: _, [] => rfl
 | x :: a, y :: b => by
   rw [fdiff, fdiff]
   by_cases h1 : x < y
   ·rw [if_pos h1, if_neg (show ¬ y < x by omega), if_pos h1]
   ·by_cases h2 : y < x
    ·rw [if_neg h1, if_pos h2, if_pos h2]; rfl
    ·rw [if_neg h1, if_neg h2, if_neg h2, if_neg h1]; exact fdiff_neg a b
theorem fdiff_trans : ∀ {a b c : List Int}, a.length = b.length → b.length = c.length → fdiff a b < 0 → fdiff b c < 0 → fdiff a c < 0
 | [], b, c, _, _, h, _ => by simp [fdiff] at h
 | x :: a, [], c, h, _, _, _ => by simp at h
 | x :: a, y :: b, [], _, h, _, _ => by simp at h
 | x :: a, y :: b, z :: c, h1, h2, h3, h4 => by
   rw [fdiff] at h3 h4 ⊢
   by_cases hxy : x < y
   ·by_cases hyz : y < z
    ·rw [if_pos (by omega)]; decide
    ·rw [if_neg hyz] at h4
     by_cases hzy : z < y
     ·rw [if_pos hzy] at h4; omega
     ·rw [if_pos (by omega)]; decide
   ·rw [if_neg hxy] at h3
    by_cases hyx : y < x
    ·rw [if_pos hyx] at h3; omega
    ·rw [if_neg hyx] at h3
     by_cases hyz : y < z
     ·rw [if_pos (by omega)]; decide
     ·rw [if_neg hyz] at h4
      by_cases hzy : z < y
      ·rw [if_pos hzy] at h4; omega
      ·rw [if_neg hzy] at h4
       rw [if_neg (by omega), if_neg (by omega)]
       exact fdiff_trans (by simpa using h1) (by simpa using h2) h3 h4
theorem cmpW_neg (a b : List Int) : cmpW a b = - cmpW b a := by
 unfold cmpW
 by_cases h1 : a.length < b.length
 ·rw [if_pos h1, if_neg (show ¬ b.length < a.length by omega), if_pos h1]
 ·by_cases h2 : b.length < a.length
  ·rw [if_neg h1, if_pos h2, if_pos h2]; rfl
  ·rw [if_neg h1, if_neg h2, if_neg h2, if_neg h1]; exact fdiff_neg a b
theorem cmpW_len {a b : List Int} (h : cmpW a b < 0) : a.length ≤ b.length := by
 unfold cmpW at h
 by_cases h1 : a.length < b.length
 ·omega
 ·rw [if_neg h1] at h
  by_cases h2 : b.length < a.length
  ·rw [if_pos h2] at h; omega
  ·omega
theorem cmpW_short {a b : List Int} (h : a.length < b.length) : cmpW a b < 0 := by rw [cmpW, if_pos h]; decide
theorem cmpW_trans {a b c : List Int} (h1 : cmpW a b < 0) (h2 : cmpW b c < 0) : cmpW a c < 0 := by
 have l1 := cmpW_len h1
 have l2 := cmpW_len h2
 by_cases h : a.length < c.length
 ·exact cmpW_short h
 ·have e1 : a.length = b.length := by omega
  have e2 : b.length = c.length := by omega
  unfold cmpW at h1 h2 ⊢
  rw [if_neg (by omega), if_neg (by omega)] at h1 h2 ⊢
  exact fdiff_trans e1 e2 h1 h2
theorem cmpW_irr (a : List Int) : ¬ cmpW a a < 0 := by rw [cmpW_zero.2 rfl]; decide
def SortW (l : List (List Int)) : Prop := l.Pairwise fun a b => cmpW a b < 0
theorem SortW.nodup {l : List (List Int)} (h : SortW l) : l.Nodup := List.Pairwise.imp (fun {a b} (h : cmpW a b < 0) (he : a = b) => cmpW_irr b (by rw [he] at h; exact h)) h
theorem SortW.eq : ∀ {l r : List (List Int)}, SortW l → SortW r → (∀ x, x ∈ l ↔ x ∈ r) → l = r
 | [], [], _, _, _ => rfl
 | [], y :: r, _, _, h => by have := (h y).2 List.mem_cons_self; cases this
 | x :: l, [], _, _, h => by have := (h x).1 List.mem_cons_self; cases this
 | x :: l, y :: r, hl, hr, h => by
   obtain ⟨hl1, hl2⟩ := List.pairwise_cons.1 hl
   obtain ⟨hr1, hr2⟩ := List.pairwise_cons.1 hr
   have hxy : x = y := by
    rcases List.mem_cons.1 ((h x).1 List.mem_cons_self) with h1 | h1
    ·exact h1
    rcases List.mem_cons.1 ((h y).2 List.mem_cons_self) with h2 | h2
    ·exact h2.symm
    exact absurd (cmpW_trans (hl1 y h2) (hr1 x h1)) (cmpW_irr x)
   subst hxy
   have : l = r := SortW.eq hl2 hr2 fun z => by
    constructor
    ·intro hz
     rcases List.mem_cons.1 ((h z).1 (List.mem_cons_of_mem _ hz)) with rfl | h1
     ·exact absurd (hl1 z hz) (cmpW_irr z)
     ·exact h1
    ·intro hz
     rcases List.mem_cons.1 ((h z).2 (List.mem_cons_of_mem _ hz)) with rfl | h1
     ·exact absurd (hr1 z hz) (cmpW_irr z)
     ·exact h1
   rw [this]
theorem addL_true (w : List Int) : ∀ l, addL l w true = l
 | [] => rfl
 | x :: l => by rw [addL, if_neg (by simp), Bool.true_or, addL_true w l]; rfl
theorem mem_addL {w x : List Int} : ∀ {l : List (List Int)}, x ∈ addL l w false ↔ x ∈ l ∨ x = w
 | [] => by simp [addL]
 | y :: l => by
   rw [addL]
   by_cases h1 : cmpW w y < 0
   ·rw [if_pos ⟨h1, rfl⟩, decide_eq_true (show cmpW w y ≤ 0 by omega), Bool.false_or, addL_true]
    simp only [List.singleton_append, List.mem_cons]
    constructor
    ·rintro (h | h | h)
     ·exact .inr h
     ·exact .inl (.inl h)
     ·exact .inl (.inr h)
    ·rintro ((h | h) | h)
     ·exact .inr (.inl h)
     ·exact .inr (.inr h)
     ·exact .inl h
   ·rw [if_neg (fun h => h1 h.1), List.nil_append]
    by_cases h2 : cmpW w y = 0
    ·rw [decide_eq_true (show cmpW w y ≤ 0 by omega), Bool.false_or, addL_true]
     have := cmpW_zero.1 h2
     subst this
     simp only [List.mem_cons]
     constructor
     ·exact .inl
     ·rintro (h | h)
      ·exact h
      ·exact .inl h
    ·rw [decide_eq_false (show ¬ cmpW w y ≤ 0 by omega), Bool.false_or, List.mem_cons, mem_addL, List.mem_cons, or_assoc]
theorem addL_sort {w : List Int} : ∀ {l : List (List Int)}, SortW l → SortW (addL l w false)
 | [], _ => by simp [addL, SortW]
 | y :: l, h => by
   obtain ⟨hl1, hl2⟩ := List.pairwise_cons.1 h
   rw [addL]
   by_cases h1 : cmpW w y < 0
   ·rw [if_pos ⟨h1, rfl⟩, decide_eq_true (show cmpW w y ≤ 0 by omega), Bool.false_or, addL_true]
    refine List.pairwise_cons.2 ⟨fun z hz => ?_, h⟩
    rcases List.mem_cons.1 hz with rfl | hz
    ·exact h1
    ·exact cmpW_trans h1 (hl1 z hz)
   ·rw [if_neg (fun h => h1 h.1), List.nil_append]
    by_cases h2 : cmpW w y = 0
    ·rw [decide_eq_true (show cmpW w y ≤ 0 by omega), Bool.false_or, addL_true]
     exact h
    ·rw [decide_eq_false (show ¬ cmpW w y ≤ 0 by omega), Bool.false_or]
     refine List.pairwise_cons.2 ⟨fun z hz => ?_, addL_sort hl2⟩
     rcases mem_addL.1 hz with hz | rfl
     ·exact hl1 z hz
     ·have := cmpW_neg z y; omega
theorem mem_addP {t : TR} {l : List (List Int)} {x : List Int} : ∀ {k : Nat}, x ∈ addP t l k ↔ x ∈ l ∨ ∃ j, j < k ∧ x = t.w.take (j + 1)
 | 0 => by simp [addP]
 | k + 1 => by
   rw [addP_succ, mem_addL, mem_addP]
   constructor
   ·rintro ((h | ⟨j, h1, h2⟩) | h)
    ·exact .inl h
    ·exact .inr ⟨j, by omega, h2⟩
    ·exact .inr ⟨k, by omega, h⟩
   ·rintro (h | ⟨j, h1, h2⟩)
    ·exact .inl (.inl h)
    ·by_cases hj : j < k
     ·exact .inl (.inr ⟨j, hj, h2⟩)
     ·obtain rfl : j = k := by omega
      exact .inr h2
theorem addP_sort {t : TR} {l : List (List Int)} (h : SortW l) : ∀ k, SortW (addP t l k)
 | 0 => h
 | k + 1 => by rw [addP_succ]; exact addL_sort (addP_sort h k)
theorem nodesL_gen : ∀ (L : List TR) (l : List (List Int)), SortW l → SortW (L.foldl (fun l t => addP t l (preN t.r)) l) ∧
  ∀ x, x ∈ L.foldl (fun l t => addP t l (preN t.r)) l ↔ x ∈ l ∨ ∃ t ∈ L, ∃ j, j < preN t.r ∧ x = t.w.take (j + 1)
 | [], l, h => ⟨h, fun x => by simp⟩
 | t :: L, l, h => by
   obtain ⟨h1, h2⟩ := nodesL_gen L (addP t l (preN t.r)) (addP_sort h _)
   refine ⟨h1, fun x => ?_⟩
   rw [List.foldl_cons, h2, mem_addP]
   constructor
   ·rintro ((h | ⟨j, k1, k2⟩) | ⟨u, k1, k2⟩)
    ·exact .inl h
    ·exact .inr ⟨t, List.mem_cons_self, j, k1, k2⟩
    ·exact .inr ⟨u, List.mem_cons_of_mem _ k1, k2⟩
   ·rintro (h | ⟨u, k1, k2⟩)
    ·exact .inl (.inl h)
    ·rcases List.mem_cons.1 k1 with rfl | k1
     ·exact .inl (.inr k2)
     ·exact .inr ⟨u, k1, k2⟩
theorem nodesL_sort (L : List TR) : SortW (nodesL L) := (nodesL_gen L [[]] (by simp [SortW])).1
theorem mem_nodesL {L : List TR} {x : List Int} : x ∈ nodesL L ↔ x = [] ∨ ∃ t ∈ L, ∃ j, j < preN t.r ∧ x = t.w.take (j + 1) := by
 have := (nodesL_gen L [[]] (by simp [SortW])).2 x
 rw [List.mem_singleton] at this
 exact this
structure TrVal (ins : Nat) (outs : Int) (t : TR) : Prop where
 len : t.r.length = t.w.length
 sym : ∀ a ∈ t.w, 0 ≤ a ∧ a < ins
 form : ∃ (p : List Int) (m : Nat), t.r = p ++ List.replicate m (-1) ∧ ∀ x ∈ p, 0 ≤ x ∧ x < outs
theorem preN_form {p : List Int} {m : Nat} (h : ∀ x ∈ p, (0 : Int) ≤ x) : preN (p ++ List.replicate m (-1)) = p.length := by
 induction p with
 | nil =>
   cases m with
   | zero => rfl
   | succ m => simp [preN, List.replicate_succ]
 | cons a p ih =>
   have ha := h a List.mem_cons_self
   have := ih fun x hx => h x (List.mem_cons_of_mem _ hx)
   rw [preN] at this ⊢
   rw [List.cons_append, List.takeWhile_cons, if_pos (by simp; omega), List.length_cons, this, List.length_cons]
theorem TrVal.get {ins : Nat} {outs : Int} {t : TR} (h : TrVal ins outs t) {k : Nat} (hk : k < t.r.length) : (k < preN t.r ∧ 0 ≤ (t.r[k]?).getD 0 ∧ (t.r[k]?).getD 0 < outs) ∨ (preN t.r ≤ k ∧ (t.r[k]?).getD 0 = -1) := by
 obtain ⟨p, m, h1, h2⟩ := h.form
 have hp := preN_form (m := m) fun x hx => (h2 x hx).1
 rw [h1] at hk ⊢
 rw [hp]
 by_cases h3 : k < p.length
 ·refine .inl ⟨h3, ?_⟩
  rw [List.getElem?_append_left h3, List.getElem?_eq_getElem h3]
  exact h2 _ (List.getElem_mem h3)
 ·refine .inr ⟨by omega, ?_⟩
  rw [List.getElem?_append_right (by omega), List.getElem?_eq_getElem (by simp at hk ⊢; omega)]
  simp
def Cons (L : List TR) : Prop := ∀ t ∈ L, ∀ u ∈ L, ∀ w, w ≠ [] → hasW t w → hasW u w → (t.r[w.length - 1]?).getD 0 = (u.r[w.length - 1]?).getD 0
theorem lastL_mem : ∀ {L : List TR} {w : List Int} {n : Int}, lastL L w = some n → ∃ t ∈ L, hasW t w ∧ n = (t.r[w.length - 1]?).getD 0
 | [], _, _, h => by cases h
 | t :: L, w, n, h => by
   rw [lastL] at h
   split at h
   ·rename_i hw
    exact ⟨t, List.mem_cons_self, hw, (Option.some.inj h).symm⟩
   ·obtain ⟨u, h1, h2⟩ := lastL_mem h
    exact ⟨u, List.mem_cons_of_mem _ h1, h2⟩
theorem lastL_none : ∀ {L : List TR} {w : List Int}, lastL L w = none → ∀ t ∈ L, ¬ hasW t w
 | [], _, _, _, ht => by cases ht
 | u :: L, w, h, t, ht => by
   rw [lastL] at h
   split at h
   ·cases h
   ·rename_i hw
    rcases List.mem_cons.1 ht with rfl | ht
    ·exact hw
    ·exact lastL_none h t ht
theorem Cons.last {L : List TR} (h : Cons L) {t : TR} (ht : t ∈ L) {w : List Int} (hw : w ≠ []) (hh : hasW t w) : lastL L w = some ((t.r[w.length - 1]?).getD 0) := by
 cases hl : lastL L w with
 | none => exact absurd hh (lastL_none hl t ht)
 | some n =>
   obtain ⟨u, h1, h2, h3⟩ := lastL_mem hl
   rw [h3, h u h1 t ht w hw h2 hh]
theorem hasW_take (t : TR) (k : Nat) : hasW t (t.w.take k) := by
 constructor
 ·simp; omega
 ·rw [List.length_take]
  by_cases h : k ≤ t.w.length
  ·rw [Nat.min_eq_left h]
  ·rw [Nat.min_eq_right (by omega), List.take_of_length_le (by omega), List.take_of_length_le (by omega)]
theorem edge_cases {ins : Nat} {outs : Int} {L : List TR} (hv : ∀ t ∈ L, TrVal ins outs t) (hc : Cons L) {w : List Int} (hw : w ≠ []) :
  (w ∉ nodesL L ∧ (edgeOf L (nodesL L) w = (-1, -1) ∨ edgeOf L (nodesL L) w = (-1, -2))) ∨
  (w ∈ nodesL L ∧ ∃ n, lastL L w = some n ∧ 0 ≤ n ∧ n < outs ∧ edgeOf L (nodesL L) w = ((((nodesL L).idxOf w : Nat) : Int), n)) := by
 have hw0 : w.length ≠ 0 := fun h => hw (List.length_eq_zero_iff.1 h)
 by_cases hm : w ∈ nodesL L
 ·right
  refine ⟨hm, ?_⟩
  rcases mem_nodesL.1 hm with h | ⟨t, ht, j, hj, he⟩
  ·exact absurd h hw
  have hl := preN_le t.r
  have tv := hv t ht
  have hwl : w.length = j + 1 := by rw [he, List.length_take, ← tv.len]; omega
  have hh : hasW t w := by rw [he]; exact hasW_take t _
  have hlast := hc.last ht hw hh
  have e1 : w.length - 1 = j := by omega
  rw [e1] at hlast
  rcases tv.get (k := j) (by omega) with h | h
  ·refine ⟨_, hlast, h.2.1, h.2.2, ?_⟩
   unfold edgeOf
   rw [hlast]
   simp only
   rw [if_neg (by omega), posOf, if_pos (List.idxOf_lt_length_of_mem hm)]
  ·omega
 ·left
  refine ⟨hm, ?_⟩
  unfold edgeOf
  cases hl : lastL L w with
  | none => exact .inl rfl
  | some n =>
    simp only
    by_cases hn : n = -1
    ·rw [if_pos hn]; exact .inr rfl
    ·obtain ⟨t, ht, hh, he⟩ := lastL_mem hl
     have tv := hv t ht
     have hwl := hh.1
     rcases tv.get (k := w.length - 1) (by rw [tv.len]; omega) with h | h
     ·refine absurd (mem_nodesL.2 (.inr ⟨t, ht, w.length - 1, h.1, ?_⟩)) hm
      rw [show w.length - 1 + 1 = w.length by omega]; exact hh.2.symm
     ·omega
theorem nodesL_pre {ins : Nat} {outs : Int} {L : List TR} (hv : ∀ t ∈ L, TrVal ins outs t) {x : List Int} {a : Int} (h : x ++ [a] ∈ nodesL L) : x ∈ nodesL L ∧ 0 ≤ a ∧ a < ins := by
 rcases mem_nodesL.1 h with h | ⟨t, ht, j, hj, he⟩
 ·simp at h
 have tv := hv t ht
 have hl := preN_le t.r
 rw [tv.len] at hl
 have hxl : x.length = j := by
  have := congrArg List.length he
  simp at this; omega
 have hx : x = t.w.take j := by
  have h1 := congrArg (List.take j) he
  rw [List.take_left' hxl, List.take_take, Nat.min_eq_left (by omega)] at h1
  exact h1
 have ha : a ∈ t.w := by
  have : a ∈ t.w.take (j + 1) := by rw [← he]; simp
  exact List.mem_of_mem_take this
 refine ⟨?_, tv.sym a ha⟩
 by_cases hj0 : j = 0
 ·subst hj0
  exact mem_nodesL.2 (.inl (by rw [hx]; simp))
 ·exact mem_nodesL.2 (.inr ⟨t, ht, j - 1, by omega, by rw [hx, show j - 1 + 1 = j by omega]⟩)
def kidsF (N : List (List Int)) (x : List Int) (j : Nat) : Option (List Int) := if x ++ [(j : Int)] ∈ N then some (x ++ [(j : Int)]) else none
def kids (N : List (List Int)) (ins : Nat) (x : List Int) : List (List Int) := (List.range ins).filterMap (kidsF N x)
theorem mem_kids {N : List (List Int)} {ins : Nat} {x w : List Int} : w ∈ kids N ins x ↔ w ∈ N ∧ ∃ j : Nat, j < ins ∧ w = x ++ [(j : Int)] := by
 unfold kids kidsF
 simp only [List.mem_filterMap, List.mem_range]
 constructor
 ·rintro ⟨j, h1, h2⟩
  split at h2
  ·rename_i h3
   have := Option.some.inj h2
   subst this
   exact ⟨h3, j, h1, rfl⟩
  ·cases h2
 ·rintro ⟨h1, j, h2, rfl⟩
  exact ⟨j, h2, if_pos h1⟩
theorem cmpW_snoc {x : List Int} {a b : Int} (h : a < b) : cmpW (x ++ [a]) (x ++ [b]) < 0 := by
 rw [cmpW, if_neg (by simp), if_neg (by simp)]
 induction x with
 | nil => simp [fdiff, h]
 | cons y x ih => rw [List.cons_append, List.cons_append, fdiff, if_neg (by omega), if_neg (by omega)]; exact ih
theorem fdiff_app : ∀ {x y u v : List Int}, x.length = y.length → fdiff x y < 0 → fdiff (x ++ u) (y ++ v) < 0
 | [], [], _, _, _, h => by simp [fdiff] at h
 | a :: x, b :: y, u, v, hl, h => by
   rw [List.cons_append, List.cons_append, fdiff]
   rw [fdiff] at h
   split
   ·decide
   ·rename_i h1
    rw [if_neg h1] at h
    split
    ·rename_i h2
     rw [if_pos h2] at h; omega
    ·rename_i h2
     rw [if_neg h2] at h
     exact fdiff_app (by simpa using hl) h
 | [], _ :: _, _, _, h, _ => by simp at h
 | _ :: _, [], _, _, h, _ => by simp at h
theorem cmpW_app {x y : List Int} {a b : Int} (h : cmpW x y < 0) : cmpW (x ++ [a]) (y ++ [b]) < 0 := by
 have hl := cmpW_len h
 by_cases h1 : x.length < y.length
 ·exact cmpW_short (by simp; omega)
 ·have e : x.length = y.length := by omega
  unfold cmpW at h ⊢
  rw [if_neg (by omega), if_neg (by omega)] at h
  rw [if_neg (by simp; omega), if_neg (by simp; omega)]
  exact fdiff_app e h
theorem kids_sort (N : List (List Int)) (ins : Nat) (x : List Int) : SortW (kids N ins x) := by
 unfold kids SortW
 rw [List.pairwise_filterMap]
 refine List.Pairwise.imp ?_ (List.pairwise_lt_range (n := ins))
 intro i j hij b hb b' hb'
 unfold kidsF at hb hb'
 split at hb
 ·split at hb'
  ·have e1 := Option.some.inj hb
   have e2 := Option.some.inj hb'
   subst e1 e2
   exact cmpW_snoc (by omega)
  ·cases hb'
 ·cases hb
theorem kids_all_sort {N : List (List Int)} (ins : Nat) : ∀ {l : List (List Int)}, SortW l → SortW (l.flatMap (kids N ins))
 | [], _ => by simp [SortW]
 | x :: l, h => by
   obtain ⟨h1, h2⟩ := List.pairwise_cons.1 h
   rw [List.flatMap_cons]
   refine List.pairwise_append.2 ⟨kids_sort N ins x, kids_all_sort ins h2, fun a ha b hb => ?_⟩
   obtain ⟨_, i, _, rfl⟩ := mem_kids.1 ha
   obtain ⟨y, hy, hb⟩ := List.mem_flatMap.1 hb
   obtain ⟨_, j, _, rfl⟩ := mem_kids.1 hb
   exact cmpW_app (h1 y hy)
theorem kids_all {ins : Nat} {outs : Int} {L : List TR} (hv : ∀ t ∈ L, TrVal ins outs t) : nodesL L = [] :: (nodesL L).flatMap (kids (nodesL L) ins) := by
 have hs := nodesL_sort L
 refine SortW.eq hs (List.pairwise_cons.2 ⟨fun w hw => ?_, kids_all_sort ins hs⟩) fun w => ?_
 ·obtain ⟨y, hy, hb⟩ := List.mem_flatMap.1 hw
  obtain ⟨_, j, _, rfl⟩ := mem_kids.1 hb
  exact cmpW_short (by simp)
 ·rw [List.mem_cons, List.mem_flatMap]
  constructor
  ·intro h
   rcases List.eq_nil_or_concat w with h0 | ⟨x, a, h0⟩
   ·exact .inl h0
   ·rw [List.concat_eq_append] at h0
    subst h0
    have := nodesL_pre hv h
    refine .inr ⟨x, this.1, mem_kids.2 ⟨h, a.toNat, by omega, by rw [Int.toNat_of_nonneg this.2.1]⟩⟩
  ·rintro (rfl | ⟨y, hy, hb⟩)
   ·exact mem_nodesL.2 (.inl rfl)
   ·exact (mem_kids.1 hb).1
theorem idxOf_drop {N : List (List Int)} (hn : N.Nodup) {n : Nat} {w : List Int} {r : List (List Int)} (h : N.drop n = w :: r) : N.idxOf w = n ∧ n < N.length := by
 have hlt : n < N.length := by
  refine Nat.lt_of_not_le fun h1 => ?_
  rw [List.drop_eq_nil_of_le h1] at h; cases h
 rw [List.drop_eq_getElem_cons hlt] at h
 have e := (List.cons.inj h).1
 subst e
 exact ⟨hn.idxOf_getElem n hlt, hlt⟩
theorem rowT_kids {ins : Nat} {outs : Int} {L : List TR} (hv : ∀ t ∈ L, TrVal ins outs t) (hc : Cons L) (x : List Int) : ∀ (js : List Nat) (n : Nat) (r : List (List Int)),
  (nodesL L).drop n = js.filterMap (kidsF (nodesL L) x) ++ r → rowT outs (js.map fun (j : Nat) => edgeOf L (nodesL L) (x ++ [(j : Int)])) n = some ((n + (js.filterMap (kidsF (nodesL L) x)).length : Nat) : Int)
 | [], n, r, h => by simp [rowT]
 | j :: js, n, r, h => by
   rw [List.map_cons, rowT]
   rcases edge_cases hv hc (w := x ++ [(j : Int)]) (by simp) with ⟨h1, h2⟩ | ⟨h1, m, h2, h3, h4, h5⟩
   ·have hk : kidsF (nodesL L) x j = none := if_neg h1
    rw [List.filterMap_cons_none hk] at h ⊢
    rw [if_pos (by rcases h2 with h2 | h2 <;> rw [h2] <;> simp)]
    exact rowT_kids hv hc x js n r h
   ·have hk : kidsF (nodesL L) x j = some (x ++ [(j : Int)]) := if_pos h1
    rw [List.filterMap_cons_some hk] at h ⊢
    rw [List.cons_append] at h
    obtain ⟨e1, e2⟩ := idxOf_drop (nodesL_sort L).nodup h
    rw [h5, e1, if_neg (by simp only; omega), if_pos (show ((n : Nat) : Int) = ((n : Nat) : Int) ∧ 0 ≤ m ∧ m < outs from ⟨rfl, h3, h4⟩)]
    have := rowT_kids hv hc x js (n + 1) r (by rw [← List.drop_drop, h]; rfl)
    rw [show ((n : Nat) : Int) + 1 = ((n + 1 : Nat) : Int) by omega, this]
    simp only [List.length_cons]
    congr 2; omega
theorem rowsT_kids {ins : Nat} {outs : Int} {L : List TR} (hv : ∀ t ∈ L, TrVal ins outs t) (hc : Cons L) : ∀ (B A : List (List Int)) (n : Nat), nodesL L = A ++ B → (nodesL L).drop n = B.flatMap (kids (nodesL L) ins) →
  n = 1 + (A.flatMap (kids (nodesL L) ins)).length → rowsT ins outs (B.map fun x => (false, treeRow L (nodesL L) x ins)) (A.length : Nat) n = some ((nodesL L).length : Int)
 | [], A, n, h1, h2, h3 => by
   rw [List.map_nil, rowsT]
   have h4 := congrArg List.length (kids_all hv)
   rw [List.append_nil] at h1
   rw [List.length_cons] at h4
   rw [← h1] at h3
   rw [h4, h3]
   congr 2; omega
 | x :: B, A, n, h1, h2, h3 => by
   have hs := nodesL_sort L
   have hlt : ¬ ((n : Nat) : Int) ≤ (A.length : Nat) := fun hle => by
    have hle : n ≤ A.length := by omega
    have hnl : n < (nodesL L).length := by rw [h1]; simp; omega
    have hm : (nodesL L)[n] ∈ (x :: B).flatMap (kids (nodesL L) ins) := by rw [← h2, List.drop_eq_getElem_cons hnl]; exact List.mem_cons_self
    obtain ⟨y, hy, hb⟩ := List.mem_flatMap.1 hm
    obtain ⟨_, j, _, he⟩ := mem_kids.1 hb
    have hy2 : y ∈ (nodesL L).drop A.length := by
     have : (nodesL L).drop A.length = x :: B := by
      conv => lhs; rw [h1]
      rw [List.drop_left]
     rw [this]; exact hy
    obtain ⟨i, hi, hiy⟩ := List.mem_iff_getElem.1 hy2
    rw [List.getElem_drop] at hiy
    have hyl : cmpW y ((nodesL L)[n]) < 0 := cmpW_short (by rw [he]; simp)
    have hle2 : n ≤ A.length + i := by omega
    have hil : A.length + i < (nodesL L).length := by simp at hi; omega
    rcases Nat.lt_or_ge n (A.length + i) with hlt | hge
    ·have := List.pairwise_iff_getElem.1 hs n (A.length + i) hnl hil hlt
     rw [hiy] at this
     exact cmpW_irr _ (cmpW_trans hyl this)
    ·have e : A.length + i = n := by omega
     subst e
     rw [hiy] at hyl
     exact cmpW_irr _ hyl
   rw [List.map_cons, rowsT]
   have hrl : ((treeRow L (nodesL L) x ins).length : Int) = ins := by simp [treeRow]
   rw [List.flatMap_cons] at h2
   have hr := rowT_kids hv hc x (List.range ins) n _ h2
   rw [if_neg (by simp only; omega)]
   simp only
   rw [treeRow, hr]
   simp only
   have := rowsT_kids hv hc B (A ++ [x]) (n + (kids (nodesL L) ins x).length) (by rw [h1]; simp) (by rw [← List.drop_drop, h2]; simp) (by rw [List.flatMap_append, List.length_append, h3]; simp; omega)
   rw [List.length_append, List.length_singleton] at this
   exact this
theorem checkT_tree {ins : Nat} {outs : Int} {L : List TR} (hv : ∀ t ∈ L, TrVal ins outs t) (hc : Cons L) (hi : 1 ≤ ins ∧ ins ≤ 16) (ho : 1 ≤ outs ∧ outs ≤ 16) (hn : (nodesL L).length ≤ 65537) : checkT (treeM ins outs L) = 0 := by
 have hL : 1 ≤ (nodesL L).length := List.length_pos_of_mem (mem_nodesL.2 (.inl rfl))
 unfold checkT treeM
 simp only [List.length_map]
 rw [if_neg (by omega), if_neg (by omega)]
 have := rowsT_kids hv hc (nodesL L) [] 1 rfl (by conv => lhs; rw [kids_all hv]
                                                  rfl) rfl
 rw [List.length_nil] at this
 rw [show ((0 : Nat) : Int) = 0 from rfl, show ((1 : Nat) : Int) = 1 from rfl] at this
 rw [this]
 simp
end Go.Avl
namespace Go.Avl
open Go Go.Proofs.Try
set_option maxRecDepth 10000
set_option linter.unusedSimpArgs false
theorem stepL_same : ∀ {j : Nat} {aw ar bw br : List Int} {k : Int}, 0 ≤ k → stepL aw ar bw br k < 0 → ar.length = aw.length → br.length = bw.length → j < aw.length → j < bw.length → aw.take (j + 1) = bw.take (j + 1) → (ar[j]?).getD 0 = (br[j]?).getD 0
 | _, [], _, _, _, _, _, _, _, _, h, _, _ => by simp at h
 | _, _ :: _, _, [], _, _, _, _, _, _, _, h, _ => by simp at h
 | _, _ :: _, [], _ :: _, _, _, _, _, h, _, _, _, _ => by simp at h
 | _, _ :: _, _ :: _, _ :: _, [], _, _, _, _, h, _, _, _ => by simp at h
 | j, x :: aw, p :: ar, y :: bw, q :: br, k, hk, h, ha, hb, h1, h2, he => by
   rw [List.take_succ_cons, List.take_succ_cons] at he
   obtain ⟨hxy, he⟩ := List.cons.inj he
   rw [stepL, if_pos hxy] at h
   by_cases hpq : p = q
   ·rw [if_pos hpq] at h
    cases j with
    | zero => simp [hpq]
    | succ j =>
      rw [List.getElem?_cons_succ, List.getElem?_cons_succ]
      exact stepL_same (by omega) h (by simpa using ha) (by simpa using hb) (by simpa using h1) (by simpa using h2) he
   ·rw [if_neg hpq] at h; omega
theorem conIn_none {L : List TR} {b : Nat} : ∀ {n a : Nat}, conIn L b a n = none → ∀ c, a ≤ c → c < a + n → conAt L b c < 0
 | 0, a, _, c, h1, h2 => by omega
 | n + 1, a, h, c, h1, h2 => by
   rw [conIn] at h
   split at h
   ·cases h
   ·rename_i h3
    by_cases hc : c = a
    ·subst hc; omega
    ·exact conIn_none h c (by omega) (by omega)
theorem conOut_none {L : List TR} : ∀ {n b : Nat}, conOut L b n = none → ∀ c, b ≤ c → c < b + n → conIn L c 0 c = none
 | 0, b, _, c, h1, h2 => by omega
 | n + 1, b, h, c, h1, h2 => by
   rw [conOut] at h
   split at h
   ·cases h
   ·rename_i h3
    by_cases hc : c = b
    ·subst hc; exact h3
    ·exact conOut_none h c (by omega) (by omega)
theorem Cons.of {L : List TR} (hl : ∀ t ∈ L, t.r.length = t.w.length) (h : conB L = false) : Cons L := by
 have h0 : conOut L 0 L.length = none := by
  unfold conB conR at h
  split at h
  ·cases h
  ·rename_i h1; exact h1
 have key : ∀ (a b : Nat) (t u : TR), a < b → L[a]? = some t → L[b]? = some u → ∀ w, w ≠ [] → hasW t w → hasW u w → (t.r[w.length - 1]?).getD 0 = (u.r[w.length - 1]?).getD 0 := fun a b t u hab ht hu w hw h1 h2 => by
  have hbl : b < L.length := (List.getElem?_eq_some_iff.1 hu).1
  have := conIn_none (conOut_none h0 b (by omega) (by omega)) a (by omega) (by omega)
  unfold conAt at this
  rw [ht, hu] at this
  simp only at this
  have hw0 : w.length ≠ 0 := fun h => hw (List.length_eq_zero_iff.1 h)
  have h3 := h1.1
  have h4 := h2.1
  refine stepL_same (Int.le_refl 0) this (hl _ (List.mem_of_getElem? ht)) (hl _ (List.mem_of_getElem? hu)) (by omega) (by omega) ?_
  rw [show w.length - 1 + 1 = w.length by omega, h1.2, h2.2]
 intro t ht u hu w hw h1 h2
 obtain ⟨a, ha, rfl⟩ := List.mem_iff_getElem.1 ht
 obtain ⟨b, hb, rfl⟩ := List.mem_iff_getElem.1 hu
 rcases Nat.lt_trichotomy a b with h | h | h
 ·exact key a b _ _ h (List.getElem?_eq_getElem ha) (List.getElem?_eq_getElem hb) w hw h1 h2
 ·subst h; rfl
 ·exact (key b a _ _ h (List.getElem?_eq_getElem hb) (List.getElem?_eq_getElem ha) w hw h2 h1).symm
theorem Cons.okLog {L : List TR} (hl : ∀ t ∈ L, t.r.length = t.w.length) : Cons (okLog L) := by
 unfold Avl.okLog
 cases h : conB L with
 | true => rw [if_pos rfl]; intro t ht; cases ht
 | false => rw [if_neg (by simp)]; exact Cons.of hl h
def FormR (outs : Int) (r : List Int) : Prop := ∃ (p : List Int) (m : Nat), r = p ++ List.replicate m (-1) ∧ ∀ x ∈ p, 0 ≤ x ∧ x < outs
theorem FormR.take {outs : Int} {r : List Int} (h : FormR outs r) (k : Nat) : FormR outs (r.take k) := by
 obtain ⟨p, m, rfl, h2⟩ := h
 rw [List.take_append, List.take_replicate]
 exact ⟨p.take k, _, rfl, fun x hx => h2 x (List.mem_of_mem_take hx)⟩
end Go.Avl
namespace Go.Avl
open Go Go.Proofs.Try
set_option maxRecDepth 10000
set_option linter.unusedSimpArgs false
def natC (n : Nat) : List AV := [.sc (.int .i64 (n : Int))]
@[go_sem] theorem norefs_natC (l : List Nat) : (l.map natC).all AV.norefs = true := by simp [List.all_eq_true, natC, AV.norefs, AV.noref]
def pU (up : List Nat) (n : Nat) : Nat := (up[n]?).getD n
def UpOk (up : List Nat) : Prop := ∀ n, pU up n ≤ n
def rootF (up : List Nat) : Nat → Nat → Nat
 | 0, n => n
 | f + 1, n => if pU up n = n then n else rootF up f (pU up n)
def rootU (up : List Nat) (n : Nat) : Nat := rootF up n n
theorem rootF_more {up : List Nat} (h : UpOk up) : ∀ (f g n : Nat), n ≤ f → n ≤ g → rootF up f n = rootF up g n
 | 0, g, n, h1, _ => by
   obtain rfl : n = 0 := by omega
   cases g with
   | zero => rfl
   | succ g => rw [rootF, rootF, if_pos (by have := h 0; omega)]
 | f + 1, 0, n, _, h2 => by
   obtain rfl : n = 0 := by omega
   rw [rootF, rootF, if_pos (by have := h 0; omega)]
 | f + 1, g + 1, n, h1, h2 => by
   rw [rootF, rootF]
   split
   ·rfl
   ·rename_i hn
    have := h n
    exact rootF_more h f g _ (by omega) (by omega)
theorem rootU_eq {up : List Nat} (h : UpOk up) (n : Nat) : rootU up n = if pU up n = n then n else rootU up (pU up n) := by
 rw [rootU, rootF_more h n (n + 1) n (Nat.le_refl _) (by omega), rootF]
 split
 ·rfl
 ·rename_i hn
  have := h n
  exact rootF_more h _ _ _ (by omega) (by omega)
theorem rootU_fix {up : List Nat} (h : UpOk up) {n : Nat} (hn : pU up n = n) : rootU up n = n := by rw [rootU_eq h, if_pos hn]
theorem rootU_up {up : List Nat} (h : UpOk up) (n : Nat) : rootU up (pU up n) = rootU up n := by
 rw [rootU_eq h n]
 split
 ·rename_i hn; rw [hn, rootU_fix h hn]
 ·rfl
theorem rootU_le {up : List Nat} (h : UpOk up) : ∀ n, rootU up n ≤ n := by
 intro n
 induction n using Nat.strongRecOn with
 | _ n ih =>
   rw [rootU_eq h]
   split
   ·exact Nat.le_refl _
   ·rename_i hn
    have h1 := h n
    have := ih (pU up n) (by omega)
    omega
theorem pU_root {up : List Nat} (h : UpOk up) : ∀ n, pU up (rootU up n) = rootU up n := by
 intro n
 induction n using Nat.strongRecOn with
 | _ n ih =>
   rw [rootU_eq h]
   split
   ·rename_i hn; exact hn
   ·rename_i hn
    have h1 := h n
    exact ih (pU up n) (by omega)
theorem rootU_root {up : List Nat} (h : UpOk up) (n : Nat) : rootU up (rootU up n) = rootU up n := rootU_fix h (pU_root h n)
theorem pU_set {up : List Nat} {n g : Nat} (hn : n < up.length) (k : Nat) : pU (up.set n g) k = if k = n then g else pU up k := by
 unfold pU
 rw [List.getElem?_set]
 by_cases h : n = k
 ·subst h; simp [hn]
 ·rw [if_neg h, if_neg (Ne.symm h)]
theorem pU_get {up : List Nat} {n : Nat} (hn : n < up.length) : up[n]? = some (pU up n) := by
 rw [pU, List.getElem?_eq_getElem hn]; rfl
theorem up_set {up : List Nat} (h : UpOk up) {n g : Nat} (hn : n < up.length) (hg : g < n) (hr : rootU up g = rootU up n) : UpOk (up.set n g) ∧ ∀ k, rootU (up.set n g) k = rootU up k := by
 have h' : UpOk (up.set n g) := fun k => by
  rw [pU_set hn]
  split
  ·omega
  ·exact h k
 refine ⟨h', fun k => ?_⟩
 induction k using Nat.strongRecOn with
 | _ k ih =>
   rw [rootU_eq h', pU_set hn]
   by_cases hk : k = n
   ·subst hk
    rw [if_pos rfl, if_neg (by omega), ih g hg, hr]
   ·rw [if_neg hk, rootU_eq h k]
    split
    ·rfl
    ·rename_i hp
     have := h k
     exact ih _ (by omega)
def leastF : Nat → List Nat → Nat → List Nat × Nat
 | 0, up, n => (up, n)
 | f + 1, up, n => if pU up n = n then (up, n) else leastF f (up.set n (pU up (pU up n))) (pU up (pU up n))
theorem leastF_ok : ∀ (f : Nat) {up : List Nat} (n : Nat), UpOk up → n < up.length → n ≤ f →
  (leastF f up n).2 = rootU up n ∧ UpOk (leastF f up n).1 ∧ (leastF f up n).1.length = up.length ∧ ∀ k, rootU (leastF f up n).1 k = rootU up k
 | 0, up, n, h, hn, hf => by
   obtain rfl : n = 0 := by omega
   refine ⟨?_, h, rfl, fun _ => rfl⟩
   show 0 = rootU up 0
   exact (rootU_fix h (by have := h 0; omega)).symm
 | f + 1, up, n, h, hn, hf => by
   rw [leastF]
   split
   ·rename_i hp
    exact ⟨(rootU_fix h hp).symm, h, rfl, fun _ => rfl⟩
   ·rename_i hp
    have h1 := h n
    have h2 := h (pU up n)
    have hr : rootU up (pU up (pU up n)) = rootU up n := by rw [rootU_up h, rootU_up h]
    obtain ⟨k1, k2⟩ := up_set h hn (g := pU up (pU up n)) (by omega) hr
    obtain ⟨j1, j2, j3, j4⟩ := leastF_ok f (up := up.set n (pU up (pU up n))) (pU up (pU up n)) k1 (by simp; omega) (by omega)
    exact ⟨by rw [j1, k2, hr], j2, by rw [j3]; simp, fun k => by rw [j4, k2]⟩
def halved (up : List Nat) (n : Nat) : List Nat := (leastF n up n).1
theorem halved_ok {up : List Nat} (h : UpOk up) {n : Nat} (hn : n < up.length) : (leastF n up n).2 = rootU up n ∧ UpOk (halved up n) ∧ (halved up n).length = up.length ∧ ∀ k, rootU (halved up n) k = rootU up k := leastF_ok n n h hn (Nat.le_refl _)
set_option maxHeartbeats 4000000 in
theorem least44_is {up : List Nat} (h : UpOk up) (hl : up.length ≤ 70000) {n : Nat} (hn : n < up.length) : WrIs prog 44 up.length (up.map natC) (.sc (.int .i64 n)) (.sc (.int .i64 (rootU up n : Nat))) ((halved up n).map natC) := by
 intro v
 have key := halved_ok h hn
 have hfin : ∀ M' : Mem, M' = prM up.length ((leastF n up n).1.map natC) (.sc v) → M' = prM up.length ((halved up n).map natC) (.sc v) := fun _ h => h
 refine BodyIs.of (nv := 2) (hid := [4, 13]) func44 rfl (by kernel_rfl) (by simp [ntmps44]) fun h0 => ?_
 rw [ntmps44, results44]
 unfold prM
 refine EvC.seq (EvC.rg (by simp only [go_sem] <;> rfl) (by simp) ?_)
 refine EvC.seq ?_
 refine EvC.block ?_
 refine EvC.loopS (σ := Nat × List Nat × Nat) (fun g => ⟨[(0, .rf 0 0), (1, .sc (.int .i64 (g.2.2 : Nat)))], [], [(0, .cells [.tv 1 up.length 0 up.length .unk, .sc v]), (1, .arr 1 (g.2.1.map natC) false)], 2⟩) (fun g => g.1)
  (fun g => g.2.2 ≤ g.1 ∧ UpOk g.2.1 ∧ g.2.1.length = up.length ∧ g.2.2 < up.length ∧ leastF g.1 g.2.1 g.2.2 = leastF n up n) [0, 1] 2 ?_ ?_
 ·exact ⟨[(0, 0), (1, 1)], (n, up, n), rfl, (by simp only [go_sem] <;> rfl), Nat.le_refl _, h, rfl, hn, rfl⟩
 rintro ⟨f, u, m⟩ ⟨h1, h2, h3, h4, h5⟩
 simp only at h1 h2 h3 h4 h5 ⊢
 have hm : (u.map natC)[m]? = some (natC (pU u m)) := by rw [List.getElem?_map, pU_get (by omega)]; rfl
 have hmin : (m : Int).toNat = m := Int.toNat_natCast m
 have hul : (u.map natC).length = up.length := by rw [List.length_map, h3]
 refine EvC.seq ?_
 refine EvC.seq (EvC.rg (by simp only [go_sem, hm, natC, hmin, hul] <;> rfl) (by simp; omega) ?_)
 refine EvC.cond (by simp only [go_sem] <;> rfl) (fun hc => ?_) (fun hc => ?_)
 rotate_left
 ·
  have hc : pU u m = m := by have : ((pU u m : Nat) : Int) = m := by simpa using hc
                             omega
  refine EvC.exit ?_
  have hlf : leastF f u m = (u, m) := by
   cases f with
   | zero => rfl
   | succ f => rw [leastF, if_pos hc]
  rw [hlf] at h5
  rw [← h5] at key hfin
  rw [← key.1]
  refine EvC.seq (EvC.rg (by simp only [go_sem] <;> rfl) (by simp) ?_)
  refine EvC.ret ⟨.inl rfl, _, (by simp only [go_sem] <;> rfl), ?_⟩
  exact ⟨rfl, hfin _ rfl⟩
 have hc : pU u m ≠ m := by have : ¬ ((pU u m : Nat) : Int) = m := by simpa using hc
                            omega
 refine EvC.skip ?_
 refine EvC.block ?_
 have hpm := h2 m
 have hpp := h2 (pU u m)
 have hg : (u.map natC)[pU u m]? = some (natC (pU u (pU u m))) := by rw [List.getElem?_map, pU_get (by omega)]; rfl
 have hgin : ((pU u m : Nat) : Int).toNat = pU u m := Int.toNat_natCast _
 obtain ⟨q, hqd⟩ : ∃ q, q = pU u m := ⟨_, rfl⟩
 rw [← hqd] at hg hgin hm hpm hpp hc
 obtain ⟨g, hgd⟩ : ∃ g, g = pU u q := ⟨_, rfl⟩
 rw [← hgd] at hg hpp
 have hset : (u.map natC).set m [.sc (.int .i64 (g : Int))] = (u.set m g).map natC := by rw [List.map_set]; rfl
 have hnew : ((u.set m g).map natC)[m]? = some (natC g) := by rw [List.getElem?_map, List.getElem?_set_self (by omega)]; rfl
 have hul2 : ((u.set m g).map natC).length = up.length := by simp [h3]
 apply EvC.seq
 apply EvC.drd mixed
 ·simp only [go_sem, hm, hg, natC, hmin, hgin, hul] <;> rfl
 ·simp; omega
 ·kernel_rfl
 rw [hset]
 refine EvC.rg (by simp only [go_sem, hnew, natC, hmin, hul2] <;> rfl) (by simp; omega) ?_
 obtain ⟨f, rfl⟩ : ∃ k, f = k + 1 := ⟨f - 1, by omega⟩
 rw [leastF, if_neg (by rw [← hqd]; exact hc), ← hqd, ← hgd] at h5
 have hroot : rootU u g = rootU u m := by rw [hgd, rootU_up h2, hqd, rootU_up h2]
 exact ⟨[(0, 0), (1, 1)], (f, u.set m g, g), rfl, (by simp only [go_sem] <;> rfl), ⟨by simp only; omega, (up_set h2 (by omega) (by omega) hroot).1, by simp [h3], by simp only; omega, h5⟩, by simp⟩
end Go.Avl
namespace Go.Avl
open Go Go.Proofs.Try
set_option maxRecDepth 10000
set_option linter.unusedSimpArgs false
theorem norefs_edgeC (x : Int × Int) : AV.norefs (edgeC x) = true := rfl
theorem clone68_new (es : List (Int × Int)) (c : Cp) (hl : es.length < 1000000) (h0 : es.length ≠ 0) : PureNew prog 68 [.sl false (es.map edgeC) c] 2 (es.map edgeC) := by
 refine PureNew.of (nv := 1) (hid := [2, 4]) func68 rfl (by kernel_rfl) (by simp [ntmps68]) fun _ => ?_
 rw [ntmps68, results68]
 refine EvC.seq (EvC.rg (by simp only [go_sem] <;> rfl) (by simp) ?_)
 refine EvC.seq ?_
 refine EvC.seq (EvC.rg (by simp only [go_sem] <;> rfl) (by simp) ?_)
 refine EvC.cond_false (by simp only [go_sem] <;> rfl) ?_
 refine EvC.skip ?_
 have hr1 : room es.length 16 = true := by simp only [room_eq, decide_eq_true_eq]; omega
 have hr3 : ∀ a b : Int, (a, b) ∈ es → (edgeC (a, b)).length = 2 := fun _ _ _ => rfl
 refine EvC.seq (EvC.rg (by simp only [go_sem, List.length_map] <;> rfl) (by simp [hr1]; try exact hr3) ?_)
 refine EvC.ret ⟨.inl rfl, _, 5, (by simp only [go_sem, List.length_map] <;> rfl), .inl ?_, ?_, by simpa using h0, norefs_edges es⟩
 ·simp only [List.length_map]
 ·rfl
theorem row_gcells {N : Nat} {r : List (Int × Int)} {W : Nat → Int × Int} (hN : r.length = N) (hW : ∀ i, i < N → r[i]? = some (W i)) : r.map edgeC = gcells edgeC W N := by
 refine List.ext_getElem (by simp [gcells, hN]) fun i k1 k2 => ?_
 simp only [gcells, List.getElem_map, List.getElem_range]
 have := hW i (by simp at k1; omega)
 rw [List.getElem?_eq_getElem (by simpa using k1)] at this
 rw [Option.some.inj this]
def upPart (n s : Nat) : List Nat := List.range s ++ List.replicate (n - s) 0
theorem upPart_len {n s : Nat} (h : s ≤ n) : (upPart n s).length = n := by simp [upPart]; omega
theorem upPart_zero (n : Nat) : (upPart n 0).map natC = List.replicate n [.sc (.int .i64 0)] := by simp [upPart, natC]
theorem upPart_all (n : Nat) : upPart n n = List.range n := by simp [upPart]
theorem upPart_set {n s : Nat} (h : s < n) : ((upPart n s).map natC).set s [.sc (.int .i64 (s : Int))] = (upPart n (s + 1)).map natC := by
 obtain ⟨d, hd⟩ : ∃ d, n - s = d + 1 := ⟨n - s - 1, by omega⟩
 have hd' : n - (s + 1) = d := by omega
 rw [upPart, upPart, hd, hd', List.replicate_succ, List.map_append, List.set_append_right _ _ (by simp), List.length_map, List.length_range, Nat.sub_self, List.map_cons, List.set_cons_zero, List.range_succ, List.map_append, List.map_append]
 simp [natC]
def foldM (N I : Nat) (up : List Nat) (W : Nat → Nat → Int × Int) : Mem :=
 (1000200, .cells [.tv 1000201 N 0 N .unk, .tv 1000202 N 0 N .unk]) :: (1000201, .arr 1 (up.map natC) false) :: (1000202, .arr 1 (ocell I N) false) :: otab 2 edgeC W N I
set_option maxHeartbeats 4000000 in
theorem alone42_body {t : Mach} (v : TV t) (hf : ∀ r ∈ t.rows, r.1 = false) {I : Nat} (hI : t.ins = (I : Int)) {R : AV → Mem → Nat → Prop}
  (hR : R (.rf 1000200 0) (foldM t.rows.length I (List.range t.rows.length) (eT t)) 3000000) : BodyIs prog 42 [.ag t.cells] [] 1000100 R := by
 have hrw := v.rows
 have hin := v.ins
 obtain ⟨n, hn⟩ : ∃ n, n = t.rows.length := ⟨_, rfl⟩
 rw [← hn] at hrw hR
 refine BodyIs.of (nv := 6) (hid := [17, 18, 19, 20, 9, 13]) func42 rfl (by kernel_rfl) (by simp [ntmps42]) fun h0 => ?_
 rw [ntmps42, results42]
 refine EvC.seq (EvC.rg (by simp only [go_sem, Mach.cells] <;> rfl) (by simp) ?_)
 refine EvC.frzB 1000100 (by simp only [go_sem] <;> rfl) ?_
 apply EvC.seq
 apply EvC.drwA mixed
 ·apply Tr.done
  ·simp only [go_sem, List.length_map, ← hn, List.length_replicate] <;> rfl
  ·simp [room_eq]; omega
 ·kernel_rfl
 refine EvC.seq ?_
 refine EvC.seq (EvC.rg (by simp only [go_sem, List.length_map, ← hn] <;> rfl) (by simp) ?_)
 refine EvC.block ?_
 refine EvC.loopS (σ := Nat) (fun s => ⟨[(3, .rf 1000200 0), (17, .sl t.nl (t.rows.map rowC) .unk), (18, .sc (.int .i64 n)), (19, .sc (.int .i64 s))], [],
  (1000200, .cells [.tv 1000201 n 0 n (.val n), .tv 1000202 n 0 n (.val n)]) :: (1000201, .arr 1 ((upPart n s).map natC) false) :: (1000202, .arr 1 (opart I n s) false) :: otab 2 edgeC (eT t) s I, 3000000⟩) (fun s => n - s) (fun s => s ≤ n) [3, 17, 18, 19] 3000000 ?_ ?_
 ·have hz1 : (List.replicate n [AV.sc (.int .i64 0)]).all AV.norefs = true := by simp [List.all_eq_true, AV.norefs, AV.noref]
  have hz2 : (List.replicate n [AV.sl true [] .zer]).all AV.norefs = true := by simp [List.all_eq_true, AV.norefs, AV.noref]
  exact ⟨[(1000111, 1000200), (1000105, 1000201), (1000109, 1000202)], 0, rfl, (by simp only [go_sem, Mach.cells, upPart_zero, opart_zero, otab_zero, Int.natCast_zero, hz1, hz2, if_true] <;> rfl), Nat.zero_le _⟩
 intro s hs
 have hul := upPart_len hs
 have hul2 : ((upPart n s).map natC).length = n := by rw [List.length_map, hul]
 have htl := opart_len (m := I) hs
 refine EvC.seq (EvC.rg (by simp only [go_sem] <;> rfl) (by simp) ?_)
 refine EvC.seq ?_
 refine EvC.cond (by simp only [go_sem] <;> rfl) (fun hc => ?_) (fun hc => ?_)
 rotate_left
 ·
  obtain rfl : s = n := by have : ¬ s < n := by simpa using hc
                           omega
  refine EvC.exit ?_
  rw [upPart_all, opart_all]
  have hn1 : s ≤ 1000000 := by omega
  have hlo : ∀ k, k < s → rlook (osegK [(1000200, 1000200), (1000201, 1000201), (1000202, 1000202)] s []) (2000000 + k) = some (2000000 + k) := fun k hk => rlook_osegK_lo hk hn1 (A := [(1000200, 1000200), (1000201, 1000201), (1000202, 1000202)]) rfl
  refine EvC.seq (EvC.rg (by simp only [go_sem] <;> rfl) (by simp) ?_)
  refine EvC.unkC ?_
  have hs00 : s ≠ 0 := by omega
  refine EvC.gcE (st2 := ⟨[(2, .rf 1000200 0)], [], foldM s I (List.range s) (eT t), 3000000⟩) [2] (osegK [(1000200, 1000200), (1000201, 1000201), (1000202, 1000202)] s []) 3000000 (osegK_ok (A := [(1000200, 1000200), (1000201, 1000201), (1000202, 1000202)]) rfl rfl rfl hn1 (by omega)) ?_ ?_
  ·unfold foldM
   simp only [go_sem, hs00, memMap_otab, ne_eq, not_false_eq_true, if_true, rlook_osegK_hi hn1, List.cons_append, List.nil_append, List.append_nil, renMem_oK_cons hn1, otab_ren 2 norefs_edgeC, ocell_ren hlo, ite_self] <;> rfl
  refine EvC.ret ⟨.inl rfl, _, (by simp only [go_sem] <;> rfl), ?_⟩
  exact hR
 have hsn : s < n := by simpa using hc
 clear hc
 refine EvC.skip ?_
 refine EvC.seq ?_
 refine EvC.block ?_
 have hsin : (s : Int).toNat = s := Int.toNat_natCast s
 have hx : t.rows[s]? = some (t.rows[s]'(by omega)) := List.getElem?_eq_getElem (by omega)
 have hxl := v.row s _ hx
 have hxf := hf _ (List.getElem_mem (show s < t.rows.length by omega))
 have hWx : ∀ i, i < I → (t.rows[s]'(by omega)).2[i]? = some (eT t s i) := fun i hi => by
  rw [eT, hx]
  simp only [Option.map_some, Option.getD_some]
  rw [List.getElem?_eq_getElem (by omega)]; rfl
 generalize t.rows[s]'(by omega) = x at hx hxl hWx hxf
 obtain ⟨xn, x⟩ := x
 simp only at hxl hWx hxf
 subst hxf
 have hxI : x.length = I := by omega
 have hcl := clone68_new x .unk (by omega) (by omega)
 have hrow := row_gcells hxI hWx
 refine EvC.seq (EvC.rg (by simp only [go_sem, hx, rowC, hsin, List.length_map, ← hn] <;> rfl) (by simp) ?_)
 have hup0 : (upPart n s)[s]? = some 0 := by rw [upPart, List.getElem?_append_right (by simp), List.length_range, Nat.sub_self, List.getElem?_replicate, if_pos (by omega)]
 refine EvC.seq (EvC.rg (by simp only [go_sem, hul2, hsin, hup0, natC] <;> rfl) (by simp; omega) ?_)
 rw [upPart_set hsn]
 have hti := opart_get (m := I) hsn
 apply EvC.drwA mixed
 ·apply Tr.run
  ·simp only [go_sem] <;> rfl
  ·simp
  apply Tr.cons
  ·exact .callN rfl rfl (by simp only [go_sem] <;> rfl) (by simp only [go_sem] <;> rfl) (by simp only [go_sem] <;> rfl) (by simp only [go_sem] <;> rfl) (by simp only [go_sem] <;> rfl) hcl
  apply Tr.done
  ·simp only [go_sem, htl, hsin, hti, List.length_map, hxI, mlook_mset] <;> rfl
  ·simp [htl]; omega
 ·kernel_rfl
 rw [hrow]
 refine EvC.rg (by simp only [go_sem] <;> rfl) (by exact inI64_of (by omega) (by omega)) ?_
 have hn1 : s ≤ 1000000 := by omega
 refine ⟨osegK [(1000200, 1000200), (1000201, 1000201), (1000202, 1000202)] s [(3000020, 2000000 + s)], s + 1, osegK_ok1 (A := [(1000200, 1000200), (1000201, 1000201), (1000202, 1000202)]) rfl rfl rfl rfl rfl (by decide) (by decide) (by omega) (by omega), ?_, by omega, by omega⟩
 have hlo : ∀ k, k < s → rlook (osegK [(1000200, 1000200), (1000201, 1000201), (1000202, 1000202)] s [(3000020, 2000000 + s)]) (2000000 + k) = some (2000000 + k) := fun k hk => rlook_osegK_lo hk hn1 (A := [(1000200, 1000200), (1000201, 1000201), (1000202, 1000202)]) rfl
 have hhi : rlook (osegK [(1000200, 1000200), (1000201, 1000201), (1000202, 1000202)] s [(3000020, 2000000 + s)]) 3000020 = some (2000000 + s) := rlook_osegK_hi hn1 _ _ _ rfl
 have hpr := opart_ren (m := I) hsn hhi hlo
 have hpn := opart_norefs (m := I) (k := 3000020) hsn
 simp only [go_sem, rlook_osegK_hi hn1, List.cons_append, List.nil_append, renMem_oK_cons hn1, renMem_oK_mset hn1, mlook_mset, gcells_norefs norefs_edgeC, otab_ren 2 norefs_edgeC, otab_snoc, hpr, hpn, Int.natCast_add, Int.natCast_one] <;> rfl
end Go.Avl
namespace Go.Avl
open Go Go.Proofs.Try
set_option maxRecDepth 10000
set_option linter.unusedSimpArgs false
def mergeE (x y : Int × Int) : Int × Int := if knownE x = true then x else y
def mrgW (W : Nat → Nat → Int × Int) (p q i : Nat) : Nat → Nat → Int × Int := fun a k => if a = p ∧ k < i then mergeE (W p k) (W q k) else W a k
def pushP (W : Nat → Nat → Int × Int) (p q k : Nat) : Option (Int × Int) := if bothE (W p k) (W q k) = true then some ((W p k).1, (W q k).1) else none
def pushN (W : Nat → Nat → Int × Int) (p q i : Nat) : List (Int × Int) := (List.range i).filterMap (pushP W p q)
theorem mrgW_zero (W : Nat → Nat → Int × Int) (p q : Nat) : mrgW W p q 0 = W := by funext a k; simp [mrgW]
theorem mrgW_succ (W : Nat → Nat → Int × Int) (p q i : Nat) : mrgW W p q (i + 1) = upd2 (mrgW W p q i) p i (mergeE (W p i) (W q i)) := by
 funext a k
 simp only [mrgW, upd2]
 by_cases h : a = p ∧ k = i
 ·obtain ⟨rfl, rfl⟩ := h; simp
 ·rw [if_neg h]
  by_cases h2 : a = p ∧ k < i
  ·rw [if_pos h2, if_pos ⟨h2.1, by omega⟩]
  ·rw [if_neg h2, if_neg (fun h3 => h2 ⟨h3.1, by have : k ≠ i := fun e => h ⟨h3.1, e⟩; omega⟩)]
theorem mrgW_same {W : Nat → Nat → Int × Int} {p q i : Nat} (h : knownE (W p i) = true) : mrgW W p q (i + 1) = mrgW W p q i := by
 rw [mrgW_succ, mergeE, if_pos h]
 funext a k
 unfold upd2 mrgW
 by_cases e : a = p ∧ k = i
 ·obtain ⟨rfl, rfl⟩ := e; simp
 ·rw [if_neg e]
theorem mrgW_p (W : Nat → Nat → Int × Int) (p q i : Nat) : mrgW W p q i p i = W p i := by simp [mrgW]
theorem mrgW_q {W : Nat → Nat → Int × Int} {p q : Nat} (h : q ≠ p) (i : Nat) : mrgW W p q i q i = W q i := by simp [mrgW, h]
theorem pushN_succ (W : Nat → Nat → Int × Int) (p q i : Nat) : pushN W p q (i + 1) = pushN W p q i ++ (if bothE (W p i) (W q i) = true then [((W p i).1, (W q i).1)] else []) := by
 rw [pushN, List.range_succ, List.filterMap_append, ← pushN]
 congr 1
 rw [List.filterMap_cons, List.filterMap_nil, pushP]
 split <;> rename_i h <;> split at h <;> first | (cases h; done) | skip
 ·rename_i h2; rw [if_neg h2]
 ·rename_i h2; rw [if_pos h2]; cases h; rfl
theorem pushN_len (W : Nat → Nat → Int × Int) (p q i : Nat) : (pushN W p q i).length ≤ i := by
 have := List.length_filterMap_le (pushP W p q) (List.range i)
 rw [List.length_range] at this
 exact this
theorem both_known {x y : Int × Int} (h : bothE x y = true) : knownE x = true := by
 unfold bothE at h; unfold knownE
 simp at h ⊢
 exact .inl h.1
def joinM (N I : Nat) (up : List Nat) (W : Nat → Nat → Int × Int) (n k : Nat) (E : List (Int × Int)) : Mem :=
 (1000200, .cells [.tv 1000201 N 0 N .unk, .tv 1000202 N 0 N .unk]) :: (1000201, .arr 1 (up.map natC) false) :: (1000202, .arr 1 (ocell I N) false) ::
 (3000000, .cells [.rf 1000200 0]) :: (3000001, .cells [.tv 3000002 n 0 k .rest]) :: (3000002, .arr 2 (E.map edgeC) false) :: otab 2 edgeC W N I
def joinK (N : Nat) : List (Nat × Nat) := osegK [(1000200, 1000200), (1000201, 1000201), (1000202, 1000202), (3000000, 3000000), (3000001, 3000001), (3000002, 3000002)] N []
theorem bothE_if (x1 x2 y1 y2 : Int) : (if (!decide (x1 = -1)) = true then !decide (y1 = -1) else false) = bothE (x1, x2) (y1, y2) := by
 unfold bothE
 by_cases h : x1 = -1 <;> simp [h]
set_option maxHeartbeats 8000000 in
theorem unite69_body {N I : Nat} (hN : N ≤ 70000) (hI : 1 ≤ I ∧ I ≤ 16) {up : List Nat} (hup : up.length = N) (W : Nat → Nat → Int × Int) {p q : Nat} (hp : p < N) (hq : q < N) (hpq : q ≠ p) (S E : List (Int × Int)) (B : Nat) (hB : B ≤ 1000000000000)
  (hE : E.take S.length = S) (hE0 : E ≠ []) (hSE : S.length ≤ E.length) (hSB : S.length + I ≤ B) (hEB : E.length ≤ B) {R : AV → Mem → Nat → Prop}
  (hRt : (∀ i, i < I → clashE (W p i) (W q i) = false) → ∀ E', E'.take (S ++ pushN W p q I).length = S ++ pushN W p q I → E' ≠ [] → (S ++ pushN W p q I).length ≤ E'.length → E'.length ≤ B → R (.sc (.bool true)) (joinM N I (up.set q p) (mrgW W p q I) E'.length (S ++ pushN W p q I).length E') 3000003)
  (hRf : (∃ i, i < I ∧ clashE (W p i) (W q i) = true) → ∀ W' k E', E' ≠ [] → R (.sc (.bool false)) (joinM N I up W' E'.length k E') 3000003) :
  BodyIs prog 69 [.sc (.int .i64 p), .sc (.int .i64 q), .rf 3000000 0, .rf 3000001 0] (joinM N I up W E.length S.length E) 3000003 R := by
 refine BodyIs.of (nv := 4) (hid := [6, 7, 8, 9, 16, 17, 18, 19, 33, 37, 54]) func69 rfl (by kernel_rfl) (by simp [ntmps69]) fun h0 => ?_
 rw [ntmps69, results69]
 have hn1 : N ≤ 1000000 := by omega
 have hp6 : p < 1000000 := by omega
 have hq6 : q < 1000000 := by omega
 have hpin : (p : Int).toNat = p := Int.toNat_natCast p
 have hqin : (q : Int).toNat = q := Int.toNat_natCast q
 have htl := ocell_len I N
 have htp := ocell_get (m := I) hp
 have htq := ocell_get (m := I) hq
 have hlo : ∀ k, k < N → rlook (joinK N) (2000000 + k) = some (2000000 + k) := fun k hk => rlook_osegK_lo hk hn1 (A := [(1000200, 1000200), (1000201, 1000201), (1000202, 1000202), (3000000, 3000000), (3000001, 3000001), (3000002, 3000002)]) rfl
 have hhi : ∀ k, notO k = true → rlook (joinK N) k = rlook [(1000200, 1000200), (1000201, 1000201), (1000202, 1000202), (3000000, 3000000), (3000001, 3000001), (3000002, 3000002)] k := fun k hk => by rw [joinK, rlook_osegK_hi hn1 _ _ _ hk, List.append_nil]
 have hgk : gcOk 3000003 3000003 (joinK N) = true := osegK_ok (A := [(1000200, 1000200), (1000201, 1000201), (1000202, 1000202), (3000000, 3000000), (3000001, 3000001), (3000002, 3000002)]) rfl rfl rfl hn1 (by omega)
 unfold joinM
 refine EvC.seq (EvC.rg (by simp only [go_sem] <;> rfl) (by simp) ?_)
 refine EvC.seq ?_
 refine EvC.seq (EvC.rg (by simp only [go_sem, htl, htp, hpin, o_ne hp6, otab_look 2 edgeC W (m := I) hp, gcells_len] <;> rfl) (by simp [htl]; omega) ?_)
 refine EvC.block ?_
 refine EvC.loopS (σ := Nat × List (Int × Int)) (fun g => ⟨[(0, .sc (.int .i64 p)), (1, .sc (.int .i64 q)), (2, .rf 3000000 0), (3, .rf 3000001 0), (16, .tl (2000000 + p) I false), (17, .sc (.int .i64 I)), (18, .sc (.int .i64 g.1))], [], joinM N I up (mrgW W p q g.1) g.2.length (S ++ pushN W p q g.1).length g.2, 3000003⟩) (fun g => I - g.1)
  (fun g => g.1 ≤ I ∧ g.2.take (S ++ pushN W p q g.1).length = S ++ pushN W p q g.1 ∧ g.2 ≠ [] ∧ (S ++ pushN W p q g.1).length ≤ g.2.length ∧ g.2.length ≤ B ∧ ∀ j, j < g.1 → clashE (W p j) (W q j) = false) [0, 1, 2, 3, 16, 17, 18] 3000003 ?_ ?_
 ·have hP0 : S ++ pushN W p q 0 = S := by simp [pushN]
  refine ⟨joinK N, (0, E), hgk, ?_, Nat.zero_le _, by rw [hP0]; exact hE, hE0, by rw [hP0]; exact hSE, hEB, fun j h => absurd h (Nat.not_lt_zero _)⟩
  rw [hP0, mrgW_zero]
  unfold joinM
  have hlp := hlo p hp
  rw [joinK] at hlo hhi hlp ⊢
  simp only [go_sem, hhi, hlp, List.cons_append, List.nil_append, List.append_nil, renMem_oK_cons hn1, otab_ren 2 norefs_edgeC, ocell_ren hlo, ite_self, norefs_edges, if_true] <;> rfl
 rintro ⟨i, E1⟩ ⟨h1, h2, h3, h4, h5, h6⟩
 simp only at h1 h2 h3 h4 h5 h6 ⊢
 have hiin : (i : Int).toNat = i := Int.toNat_natCast i
 unfold joinM
 refine EvC.seq (EvC.rg (by simp only [go_sem] <;> rfl) (by simp) ?_)
 refine EvC.seq ?_
 refine EvC.cond (by simp only [go_sem] <;> rfl) (fun hc => ?_) (fun hc => ?_)
 rotate_left
 ·
  obtain rfl : i = I := by have : ¬ i < I := by simpa using hc
                           omega
  refine EvC.exit ?_
  have hset : (up.map natC).set q [.sc (.int .i64 (p : Int))] = (up.set q p).map natC := by rw [List.map_set]; rfl
  have hul : (up.map natC).length = N := by rw [List.length_map, hup]
  have huq : up[q]? = some (pU up q) := pU_get (by omega)
  refine EvC.seq (EvC.rg (by simp only [go_sem, hul, huq, natC, hqin, hset] <;> rfl) (by simp; omega) ?_)
  refine EvC.seq (EvC.rg (by simp only [go_sem] <;> rfl) (by simp) ?_)
  refine EvC.gcE (st2 := ⟨[(6, .sc (.bool true))], [], joinM N i (up.set q p) (mrgW W p q i) E1.length (S ++ pushN W p q i).length E1, 3000003⟩) [6] (joinK N) 3000003 hgk ?_ ?_
  ·unfold joinM
   rw [joinK] at hlo hhi ⊢
   simp only [go_sem, hhi, List.cons_append, List.nil_append, List.append_nil, renMem_oK_cons hn1, otab_ren 2 norefs_edgeC, ocell_ren hlo, ite_self, norefs_edges, if_true] <;> rfl
  refine EvC.ret ⟨.inl rfl, _, (by simp only [go_sem] <;> rfl), ?_⟩
  exact hRt h6 E1 h2 h3 h4 h5
 have hiI : i < I := by simpa using hc
 clear hc
 refine EvC.skip ?_
 refine EvC.seq ?_
 refine EvC.block ?_
 have hlp := otab_look 2 edgeC (mrgW W p q i) (m := I) hp
 have hlq := otab_look 2 edgeC (mrgW W p q i) (m := I) hq
 have hgp := gcells_get edgeC (mrgW W p q i p) hiI
 have hgq := gcells_get edgeC (mrgW W p q i q) hiI
 rw [mrgW_p] at hgp
 rw [mrgW_q hpq] at hgq
 have hgl := gcells_len edgeC
 refine EvC.seq (EvC.rg (by simp only [go_sem, o_ne hp6, hlp, hgp, hgl, hiin, edgeC] <;> rfl) (by simp; omega) ?_)
 refine EvC.seq (EvC.rg (by simp only [go_sem, o_ne hq6, hlq, hgq, hgl, hiin, edgeC, htq, htl, hqin] <;> rfl) (by simp; omega) ?_)
 have hmd : ∀ k, notO k = true → mdel (otab 2 edgeC (mrgW W p q i) N I) k = otab 2 edgeC (mrgW W p q i) N I := fun k hk => mdel_otab _ _ _ (by omega) k hk
 refine EvC.frzB 3000007 (by simp only [go_sem, hmd 3000007 rfl] <;> rfl) ?_
 refine EvC.frzB 3000020 (by simp only [go_sem, hmd 3000020 rfl] <;> rfl) ?_
 refine EvC.block ?_
 have hbk := both_known (x := W p i) (y := W q i)
 have hps := pushN_succ W p q i
 have hms := mrgW_succ W p q i
 have hmk := mrgW_same (W := W) (p := p) (q := q) (i := i)
 have hx : W p i = ((W p i).1, (W p i).2) := rfl
 have hy : W q i = ((W q i).1, (W q i).2) := rfl
 obtain ⟨x, hxd⟩ : ∃ x, x = W p i := ⟨_, rfl⟩
 obtain ⟨y, hyd⟩ : ∃ y, y = W q i := ⟨_, rfl⟩
 have hcl : clashE (W p i) (W q i) = clashE x y := by rw [hxd, hyd]
 rw [← hxd, ← hyd] at hbk hps hms
 rw [← hxd] at hmk hgp ⊢
 rw [← hyd] at hgq ⊢
 have hxw := hxd
 clear hx hy hxd hyd
 obtain ⟨x1, x2⟩ := x
 obtain ⟨y1, y2⟩ := y
 have hK := clash38_is x1 x2 y1 y2
 simp only
 generalize clashE (x1, x2) (y1, y2) = ck at hK hcl
 apply EvC.seq
 apply EvC.tr
 ·apply Tr.run
  ·simp only [go_sem] <;> rfl
  ·simp
  apply Tr.cons
  ·exact .call rfl rfl (by simp only [go_sem] <;> rfl) (by simp only [go_sem] <;> rfl) (by simp only [go_sem] <;> rfl) (by simp only [go_sem] <;> rfl) (by simp only [go_sem] <;> rfl) (hK)
  apply Tr.done
  ·simp only [go_sem] <;> rfl
  ·simp
 cases ck with
 | true =>
   refine EvC.cond_true (by simp only [go_sem] <;> rfl) ?_
   refine EvC.seq (EvC.rg (by simp only [go_sem] <;> rfl) (by simp) ?_)
   refine EvC.gcE (st2 := ⟨[(6, .sc (.bool false))], [], joinM N I up (mrgW W p q i) E1.length (S ++ pushN W p q i).length E1, 3000003⟩) [6] (joinK N) 3000003 hgk ?_ ?_
   ·unfold joinM
    rw [joinK] at hlo hhi ⊢
    simp only [go_sem, hhi, List.cons_append, List.nil_append, List.append_nil, renMem_oK_cons hn1, otab_ren 2 norefs_edgeC, ocell_ren hlo, ite_self, norefs_edges, if_true] <;> rfl
   refine EvC.ret ⟨.inl rfl, _, (by simp only [go_sem] <;> rfl), ?_⟩
   exact hRf ⟨i, hiI, hcl⟩ _ _ E1 h3
 | false =>
 refine EvC.cond_false (by simp only [go_sem] <;> rfl) ?_
 have hcl' : ∀ j, j < i + 1 → clashE (W p j) (W q j) = false := fun j hj => by
  by_cases h : j < i
  ·exact h6 j h
  ·obtain rfl : j = i := by omega
   exact hcl
 have hbo := bothE_if x1 x2 y1 y2
 apply EvC.seq
 apply EvC.trd
 ·simp only [go_sem, hbo] <;> rfl
 ·simp
 cases hbe : bothE (x1, x2) (y1, y2) with
 | true =>
   refine EvC.cond_true (by simp only [go_sem, hbo, hbe] <;> rfl) ?_
   rw [if_pos hbe] at hps
   have hkx : knownE (W p i) = true := by rw [← hxw]; exact hbk hbe
   have hms' := hmk (hbk hbe)
   obtain ⟨T, hT⟩ : ∃ T, T = S ++ pushN W p q i := ⟨_, rfl⟩
   have hTn : S ++ pushN W p q (i + 1) = T ++ [(x1, y1)] := by rw [hps, hT, List.append_assoc]
   have hTl : S.length + (pushN W p q i).length = T.length := by rw [hT, List.length_append]
   have hTb : T.length ≤ S.length + i := by have := pushN_len W p q i; omega
   rw [← hT] at h2 h4
   have hElen : (E1.map edgeC).length = E1.length := List.length_map _
   have hr2 : room (T.length + 1) 16 = true := by simp only [room_eq, decide_eq_true_eq]; omega
   have hE1ne : E1.length ≠ 0 := by simpa using h3
   by_cases hfull : T.length = E1.length
   ·obtain ⟨E2, hE2d⟩ : ∃ E2, E2 = E1 ++ [(x1, y1)] := ⟨_, rfl⟩
    have hET : E1 = T := by rw [← h2, hfull, List.take_length]
    have hsn : E1.map edgeC ++ [[.sc (.int .i64 x1), .sc (.int .i64 y1)]] = E2.map edgeC := by rw [hE2d]; simp [edgeC]
    have hl2 : E2.length = E1.length + 1 := by rw [hE2d]; simp
    refine EvC.rg (by simp only [go_sem, hTl, hfull, hElen, hsn] <;> rfl) (by simp; exact ⟨h3, by rw [← hfull]; exact hr2⟩) ?_
    have hc1 : E2.take (T ++ [(x1, y1)]).length = T ++ [(x1, y1)] := by rw [hE2d, hET, List.take_length]
    refine EvC.rg (by simp only [go_sem] <;> rfl) (by exact inI64_of (by omega) (by omega)) ?_
    refine ⟨joinK N, (i + 1, E2), hgk, ?_, ⟨hiI, by simp only; rw [hTn]; exact hc1, (by simp only; rw [hE2d]; simp), by simp only; rw [hTn, List.length_append, List.length_singleton]; omega, by simp only; omega, hcl'⟩, by simp only; omega⟩
    show _ = St.mk _ _ (joinM N I up (mrgW W p q (i + 1)) E2.length (S ++ pushN W p q (i + 1)).length E2) _
    rw [hTn, hms']
    unfold joinM
    have hlp' := hlo p hp
    rw [joinK] at hlo hhi hlp' ⊢
    simp only [go_sem, hhi, hlp', hl2, hfull, List.cons_append, List.nil_append, List.append_nil, renMem_oK_cons hn1, otab_ren 2 norefs_edgeC, ocell_ren hlo, ite_self, norefs_edges, if_true, Int.natCast_add, Int.natCast_one] <;> rfl
   ·obtain ⟨E2, hE2d⟩ : ∃ E2, E2 = E1.take T.length ++ (x1, y1) :: E1.drop (T.length + 1) := ⟨_, rfl⟩
    have hsn : List.take T.length (E1.map edgeC) ++ [.sc (.int .i64 x1), .sc (.int .i64 y1)] :: List.drop (T.length + 1) (E1.map edgeC) = E2.map edgeC := by rw [hE2d]; simp [edgeC, List.map_take, List.map_drop]
    have hl2 : E2.length = E1.length := by rw [hE2d]; simp; omega
    refine EvC.rg (by simp only [go_sem, hTl, hfull, hElen, hsn] <;> rfl) (by simp [hr2]; try omega) ?_
    have hc1 : E2.take (T ++ [(x1, y1)]).length = T ++ [(x1, y1)] := by
     have e : E2 = (T ++ [(x1, y1)]) ++ E1.drop (T.length + 1) := by rw [hE2d, h2]; simp
     rw [e, List.take_left]
    refine EvC.rg (by simp only [go_sem] <;> rfl) (by exact inI64_of (by omega) (by omega)) ?_
    refine ⟨joinK N, (i + 1, E2), hgk, ?_, ⟨hiI, by simp only; rw [hTn]; exact hc1, (by simp only; rw [hE2d]; simp), by simp only; rw [hTn, List.length_append, List.length_singleton]; omega, by simp only; omega, hcl'⟩, by simp only; omega⟩
    show _ = St.mk _ _ (joinM N I up (mrgW W p q (i + 1)) E2.length (S ++ pushN W p q (i + 1)).length E2) _
    rw [hTn, hms']
    unfold joinM
    have hlp' := hlo p hp
    rw [joinK] at hlo hhi hlp' ⊢
    simp only [go_sem, hhi, hlp', hl2, List.cons_append, List.nil_append, List.append_nil, renMem_oK_cons hn1, otab_ren 2 norefs_edgeC, ocell_ren hlo, ite_self, norefs_edges, if_true, Int.natCast_add, Int.natCast_one] <;> rfl
 | false =>
 refine EvC.cond_false (by simp only [go_sem, hbo, hbe] <;> rfl) ?_
 rw [if_neg (by rw [hbe]; simp), List.append_nil] at hps
 have hK2 := known55_is x1 x2
 apply EvC.seq
 apply EvC.tr
 ·apply Tr.run
  ·simp only [go_sem] <;> rfl
  ·simp
  apply Tr.cons
  ·exact .call rfl rfl (by simp only [go_sem] <;> rfl) (by simp only [go_sem] <;> rfl) (by simp only [go_sem] <;> rfl) (by simp only [go_sem] <;> rfl) (by simp only [go_sem] <;> rfl) (hK2)
  apply Tr.done
  ·simp only [go_sem] <;> rfl
  ·simp
 cases hkx : knownE (x1, x2) with
 | true =>
   refine EvC.cond_false (by simp only [go_sem, hkx] <;> rfl) ?_
   refine EvC.skip ?_
   have hms' := hmk hkx
   refine EvC.rg (by simp only [go_sem] <;> rfl) (by exact inI64_of (by omega) (by omega)) ?_
   refine ⟨joinK N, (i + 1, E1), hgk, ?_, ⟨hiI, by simp only; rw [hps]; exact h2, h3, by simp only; rw [hps]; exact h4, h5, hcl'⟩, by simp only; omega⟩
   show _ = St.mk _ _ (joinM N I up (mrgW W p q (i + 1)) E1.length (S ++ pushN W p q (i + 1)).length E1) _
   rw [hps, hms']
   unfold joinM
   have hlp' := hlo p hp
   rw [joinK] at hlo hhi hlp' ⊢
   simp only [go_sem, hhi, hlp', List.cons_append, List.nil_append, List.append_nil, renMem_oK_cons hn1, otab_ren 2 norefs_edgeC, ocell_ren hlo, ite_self, norefs_edges, if_true, Int.natCast_add, Int.natCast_one] <;> rfl
 | false =>
   refine EvC.cond_true (by simp only [go_sem, hkx] <;> rfl) ?_
   have hset : mset (otab 2 edgeC (mrgW W p q i) N I) (2000000 + p) (.arr 2 ((gcells edgeC (mrgW W p q i p) I).set i [.sc (.int .i64 y1), .sc (.int .i64 y2)]) false) = _ := otab_set 2 edgeC (mrgW W p q i) (m := I) (y1, y2) hp hiI
   rw [show mergeE (x1, x2) (y1, y2) = (y1, y2) from if_neg (by rw [hkx]; simp)] at hms
   rw [← hms] at hset
   have hms2 : upd2 (mrgW W p q i) p i (y1, y2) = mrgW W p q (i + 1) := hms.symm
   apply EvC.drd mixed
   ·simp only [go_sem, htl, htp, hpin, o_ne hp6, hlp, hgp, hgl, hiin, edgeC, hset] <;> rfl
   ·simp [htl, hgl]; omega
   ·exact confAll_slots (by simp [rdOk, slotsOf, opSlots, memless, Op.operands]) (by kernel_rfl)
   refine EvC.rg (by simp only [go_sem] <;> rfl) (by exact inI64_of (by omega) (by omega)) ?_
   refine ⟨joinK N, (i + 1, E1), hgk, ?_, ⟨hiI, by simp only; rw [hps]; exact h2, h3, by simp only; rw [hps]; exact h4, h5, hcl'⟩, by simp only; omega⟩
   show _ = St.mk _ _ (joinM N I up (mrgW W p q (i + 1)) E1.length (S ++ pushN W p q (i + 1)).length E1) _
   rw [hps]
   unfold joinM
   have hlp' := hlo p hp
   rw [joinK] at hlo hhi hlp' ⊢
   simp only [go_sem, hhi, hlp', hset, List.cons_append, List.nil_append, List.append_nil, renMem_oK_cons hn1, otab_ren 2 norefs_edgeC, ocell_ren hlo, ite_self, norefs_edges, if_true, Int.natCast_add, Int.natCast_one] <;> rfl
end Go.Avl
