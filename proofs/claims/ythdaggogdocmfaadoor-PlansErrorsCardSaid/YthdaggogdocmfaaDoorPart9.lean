/-
  Lemmas.
  Lemmas.
  Lemmas.
  Lemmas.
  Lemmas.
  From a law's row to its contract: arguments opened, and read again behind the call.
  How the arguments of the plans' laws read, and the table of the kinds of faults.
-/
import Derived.ProofKit
import Derived.OpenShut
import Derived.Test.YthdaggogdocmfaaDoorCards
import Derived.Test.YthdaggogdocmfaaDoorTie
import Derived.LaidMore
import Derived.Stop.Joined
import Derived.Test.YthdaggogdocmfaaDoorPart8
set_option linter.unusedSimpArgs false
set_option linter.unusedVariables false
set_option linter.unnecessarySimpa false
set_option linter.deprecated false
namespace Go.Avl
open Go Go.Proofs.Tryd
set_option maxRecDepth 10000
set_option linter.unusedSimpArgs false

/-- Chains so far: those that are whole, and the last one. -/
abbrev CS := Option (List (List Int) × List Int)
def putO (j : Bool) : CS → List Int → CS
  | none, w => some ([], w)
  | some (f, e), w => if (j && decide (e.length + w.length ≤ 256)) = true then some (f, e ++ w) else some (f ++ [e], w)
def csList : CS → List (List Int)
  | none => []
  | some (f, e) => f ++ [e]
/-- The first pass: the words that lead back to the initial state go on the chain, the others aside. -/
def pass1 (m : Mach) : List (List Int) → CS × List (List Int) → CS × List (List Int)
  | [], p => p
  | w :: r, (s, o) => if afterR m 0 w = 0 then pass1 m r (putO true s w, o) else pass1 m r (s, o ++ [w])
def pass2 : Bool → List (List Int) → CS → CS
  | _, [], s => s
  | j, w :: r, s => pass2 false r (putO j s w)
def chainsL (m : Mach) (l : List (List Int)) : List (List Int) := csList (pass2 true (pass1 m l (none, [])).2 (pass1 m l (none, [])).1)
def wC (w : List Int) : List AV := [.sl w.isEmpty (w.map intC) .unk]
@[go_sem] theorem norefs_wC (l : List (List Int)) : (l.map wC).all AV.norefs = true := by simp [List.all_eq_true, wC, AV.norefs, AV.noref]
def wordsE (n : Int) (l : List (List Int)) : Int := wordsErr n (l.map fun w => (w.isEmpty, w))
def chainsR (m : Mach) (l : List (List Int)) : AV :=
  if 4096 < l.length then .tu [.sl true [] .unk, .sc (.int .i64 3)]
  else if ¬ wordsE m.ins l = 0 then .tu [.sl true [] .unk, .sc (.int .i64 (wordsE m.ins l))]
  else .tu [.sl (chainsL m l).isEmpty ((chainsL m l).map fun w => [.sl w.isEmpty (w.map intC) .full]) .full, .sc (.int .i64 0)]
/-! The same with words of any nil flag. -/
abbrev ZS := Option (List Wd × Wd)
def zput (j : Bool) : ZS → Wd → ZS
  | none, w => some ([], w)
  | some (f, e), w => if (j && decide (e.2.length + w.2.length ≤ 256)) = true then some (f, (e.1 && w.2.isEmpty, e.2 ++ w.2)) else some (f ++ [e], w)
def zList : ZS → List Wd
  | none => []
  | some (f, e) => f ++ [e]
def zM (L : List (List AV)) : ZS → Mem
  | none => [(0, .cells [.tl 1 0 true]), (1, .arr 1 [] false), (3, .arr 1 L true)]
  | some (f, e) => chM L f 2 e
/-- How the memory lies behind a put. -/
def PutM (L : List (List AV)) (s : ZS) (M : Mem) : Prop := ∃ f e, s = some (f, e) ∧ (M = chX L f e ∨ M = chM L f 2 e ∨ M = chM L f 4 e)
def zLen : ZS → Nat
  | none => 0
  | some (f, _) => f.length + 1
def ZOk (s : ZS) : Prop := ∀ w ∈ zList s, WdOk w
theorem put_is {L : List (List AV)} (hL : L.all AV.norefs = true) (s : ZS) (w : Wd) (c : Cp) (j : Bool) (hs : ZOk s) (hw : WdOk w) (h1 : zLen s < 1000000) (h2 : ∀ f e, s = some (f, e) → e.2.length < 1000000) (h3 : w.2.length < 1000000) {R : AV → Mem → Nat → Prop} (hR : ∀ M nx, PutM L (zput j s w) M → R (mkRes []) M nx) :
    BodyIs prog 61 [.sl w.1 (w.2.map intC) c, .sc (.bool j), .rf 0 0] (zM L s) 4 R := by
  cases s with
  | none => exact put_first L w hw h3 c j fun nx => hR _ nx ⟨_, _, rfl, .inl rfl⟩
  | some p =>
    obtain ⟨f, e⟩ := p
    have hf : f.length < 1000000 := by simp only [zLen] at h1; omega
    cases hj : (j && decide (e.2.length + w.2.length ≤ 256)) with
    | false => exact put_more hL f e w hw hf (h2 f e rfl) h3 c j hj fun nx => hR _ nx ⟨_, _, by rw [zput, hj]; rfl, .inl rfl⟩
    | true =>
      have hj2 := hj
      simp only [Bool.and_eq_true, decide_eq_true_eq] at hj2
      obtain ⟨rfl, hsm⟩ := hj2
      refine put_join hL f e w (hs e (by simp [zList])) hw hf hsm c fun id nx hid => hR _ nx ⟨_, _, by rw [zput, if_pos hj], .inr ?_⟩
      rcases hid with rfl | rfl
      · exact .inl rfl
      · exact .inr rfl
def zpass1 (m : Mach) : List Wd → ZS × List Wd → ZS × List Wd
  | [], p => p
  | w :: r, (s, o) => if afterR m 0 w.2 = 0 then zpass1 m r (zput true s w, o) else zpass1 m r (s, o ++ [w])
def zpass2 : Bool → List Wd → ZS → ZS
  | _, [], s => s
  | j, w :: r, s => zpass2 false r (zput j s w)
def chainsW (m : Mach) (l : List Wd) : List Wd := zList (zpass2 true (zpass1 m l (none, [])).2 (zpass1 m l (none, [])).1)
def chD (w : Wd) : List AV := [.sl w.1 (w.2.map intC) .full]
def chainsWR (m : Mach) (l : List Wd) : AV :=
  if 4096 < l.length then .tu [.sl true [] .unk, .sc (.int .i64 3)]
  else if ¬ wordsErr m.ins l = 0 then .tu [.sl true [] .unk, .sc (.int .i64 (wordsErr m.ins l))]
  else .tu [.sl (chainsW m l).isEmpty ((chainsW m l).map chD) .full, .sc (.int .i64 0)]
theorem zput_len (j : Bool) (s : ZS) (w : Wd) : zLen (zput j s w) ≤ zLen s + 1 := by
  unfold zput
  split
  · simp [zLen]
  · split <;> simp [zLen]
theorem zput_last {j : Bool} {s : ZS} {w : Wd} (hw : w.2.length ≤ 256) : ∀ f e, zput j s w = some (f, e) → e.2.length ≤ 256 := by
  intro f e h
  unfold zput at h
  split at h
  · cases h; exact hw
  · split at h
    · rename_i hj
      simp only [Bool.and_eq_true, decide_eq_true_eq] at hj
      cases h
      rw [List.length_append]
      exact hj.2
    · cases h; exact hw
theorem zput_ok {j : Bool} {s : ZS} {w : Wd} (hs : ZOk s) (hw : WdOk w) : ZOk (zput j s w) := by
  unfold zput
  split
  · intro v hv; simp only [zList, List.nil_append, List.mem_singleton] at hv; rw [hv]; exact hw
  · rename_i f e
    split
    · intro v hv
      simp only [zList, List.mem_append, List.mem_singleton] at hv
      rcases hv with hv | rfl
      · exact hs v (by simp [zList, hv])
      · intro hb
        simp only [Bool.and_eq_true, List.isEmpty_iff] at hb
        have := hs e (by simp [zList]) hb.1
        simp only [this, hb.2, List.append_nil]
    · intro v hv
      simp only [zList, List.mem_append, List.mem_singleton] at hv
      rcases hv with (hv | hv) | hv
      · exact hs v (by simp [zList, hv])
      · rw [hv]; exact hs e (by simp [zList])
      · rw [hv]; exact hw
theorem ZOk.none : ZOk none := fun _ h => by cases h
/-- Behind a put in the first pass: the state as it was. -/
theorem put_gc1 {m : Mach} {ln : Bool} {l o : List Wd} {lc : Cp} {k nx : Nat} {w : Wd} {s : ZS} {M : Mem} {T : List (Nat × AV)} {hid : List Nat} {ro : Option Nat} {ds : DS} {c : Code} {Q : Exit → St → Prop} (hM : PutM (o.map wdC) s M)
    (h : EvC prog ⟨0, 3, hid, 94⟩ ro ds c ⟨[(2, .ia [.sc (.int .i64 m.ins), .sc (.int .i64 m.outs), .sl m.nl (m.rows.map rowC) .unk]), (10, .rf 0 0), (11, .tl 3 o.length o.isEmpty), (12, .fn 61 [.rf 0 0]), (43, .sl ln (l.map wdC) lc), (44, .sc (.int .i64 l.length)), (45, .sc (.int .i64 k))], [], zM (o.map wdC) s, 4⟩ Q) :
    EvC prog ⟨0, 3, hid, 94⟩ ro ds c ⟨[(2, .ia [.sc (.int .i64 m.ins), .sc (.int .i64 m.outs), .sl m.nl (m.rows.map rowC) .unk]), (10, .rf 0 0), (11, .tl 3 o.length o.isEmpty), (12, .fn 61 [.rf 0 0]), (43, .sl ln (l.map wdC) lc), (44, .sc (.int .i64 l.length)), (45, .sc (.int .i64 k)), (57, .fn 61 [.rf 0 0]), (58, .sl w.1 (w.2.map intC) .unk)], T, M, nx⟩ Q := by
  obtain ⟨f, e, rfl, hM⟩ := hM
  have hL := norefs_wds o
  have hC := norefs_chC f
  by_cases he : e.2 = []
  · obtain ⟨eb, es⟩ := e
    obtain rfl : es = [] := he
    have hcs : zM (o.map wdC) (some (f, (eb, []))) = [(0, .cells [.tl 1 (f.length + 1) false]), (1, .arr 1 (f.map chC ++ [[.sl eb [] .zer]]) false), (3, .arr 1 (o.map wdC) true)] := rfl
    have hN : (f.map chC ++ [[AV.sl eb [] .zer]]).all AV.norefs = true := by rw [List.all_append, hC]; rfl
    rw [hcs] at h
    have hM : M = zM (o.map wdC) (some (f, (eb, []))) ∨ M = zM (o.map wdC) (some (f, (eb, []))) ++ [(27, .arr 1 [[.sl eb [] .zer]] false)] := by
      rcases hM with h | h | h
      · exact .inr h
      · exact .inl h
      · exact .inl h
    rw [hcs] at hM
    rcases hM with rfl | rfl
    · refine EvC.gcE [2, 10, 11, 12, 43, 44, 45] [(0, 0), (1, 1), (3, 3)] 4 rfl (by (simp only [go_sem, hL, hN]) <;> rfl) h
    · refine EvC.gcE [2, 10, 11, 12, 43, 44, 45] [(0, 0), (1, 1), (3, 3)] 4 rfl (by (simp only [go_sem, hL, hN]) <;> rfl) h
  · have hcs : ∀ id, chM (o.map wdC) f id e = [(0, .cells [.tl 1 (f.length + 1) false]), (1, .arr 1 (f.map chC ++ [[.tv id e.2.length 0 e.2.length .rest]]) false), (3, .arr 1 (o.map wdC) true), (id, .arr 1 (e.2.map intC) false)] := fun id => by
      rw [chM, lastA, if_neg he, if_neg he]; rfl
    have hN : ∀ id, (f.map chC ++ [[AV.tv id e.2.length 0 e.2.length .rest]]).all AV.norefs = false := fun id => by rw [List.all_append]; simp [AV.norefs, AV.noref]
    have hRn : ∀ (K : List (Nat × Nat)) (v : AV), (f.map chC ++ [[v]]).map (fun c => c.map (AV.ren K)) = f.map chC ++ [[v.ren K]] := fun K v => by rw [List.map_append, chC_ren]; rfl
    rw [zM, hcs] at h
    rw [chX, hcs, hcs, hcs, lastA, if_neg he] at hM
    rcases hM with rfl | rfl | rfl
    · refine EvC.gcE [2, 10, 11, 12, 43, 44, 45] [(0, 0), (1, 1), (3, 3), (26, 2)] 4 rfl (by (simp only [go_sem, hL, hN, hRn]) <;> rfl) h
    · refine EvC.gcE [2, 10, 11, 12, 43, 44, 45] [(0, 0), (1, 1), (3, 3), (2, 2)] 4 rfl (by (simp only [go_sem, hL, hN, hRn]) <;> rfl) h
    · refine EvC.gcE [2, 10, 11, 12, 43, 44, 45] [(0, 0), (1, 1), (3, 3), (4, 2)] 4 rfl (by (simp only [go_sem, hL, hN, hRn]) <;> rfl) h
/-- Behind a put in the second pass: the state as it was. -/
theorem put_gc2 {b : Bool} {o : List Wd} {k nx : Nat} {w : Wd} {s : ZS} {M : Mem} {T : List (Nat × AV)} {hid : List Nat} {ro : Option Nat} {ds : DS} {c : Code} {Q : Exit → St → Prop} (hM : PutM (o.map wdC) s M)
    (h : EvC prog ⟨0, 3, hid, 94⟩ ro ds c ⟨[(10, .rf 0 0), (12, .fn 61 [.rf 0 0]), (65, .tl 3 o.length o.isEmpty), (66, .sc (.int .i64 o.length)), (67, .sc (.int .i64 k))], [], zM (o.map wdC) s, 4⟩ Q) :
    EvC prog ⟨0, 3, hid, 94⟩ ro ds c ⟨[(10, .rf 0 0), (12, .fn 61 [.rf 0 0]), (65, .tl 3 o.length o.isEmpty), (66, .sc (.int .i64 o.length)), (67, .sc (.int .i64 k)), (72, .fn 61 [.rf 0 0]), (73, .sl w.1 (w.2.map intC) .unk), (75, .sc (.bool b))], T, M, nx⟩ Q := by
  obtain ⟨f, e, rfl, hM⟩ := hM
  have hL := norefs_wds o
  have hC := norefs_chC f
  by_cases he : e.2 = []
  · obtain ⟨eb, es⟩ := e
    obtain rfl : es = [] := he
    have hcs : zM (o.map wdC) (some (f, (eb, []))) = [(0, .cells [.tl 1 (f.length + 1) false]), (1, .arr 1 (f.map chC ++ [[.sl eb [] .zer]]) false), (3, .arr 1 (o.map wdC) true)] := rfl
    have hN : (f.map chC ++ [[AV.sl eb [] .zer]]).all AV.norefs = true := by rw [List.all_append, hC]; rfl
    rw [hcs] at h
    have hM : M = zM (o.map wdC) (some (f, (eb, []))) ∨ M = zM (o.map wdC) (some (f, (eb, []))) ++ [(27, .arr 1 [[.sl eb [] .zer]] false)] := by
      rcases hM with h | h | h
      · exact .inr h
      · exact .inl h
      · exact .inl h
    rw [hcs] at hM
    rcases hM with rfl | rfl
    · refine EvC.gcE [10, 12, 65, 66, 67] [(0, 0), (1, 1), (3, 3)] 4 rfl (by (simp only [go_sem, hL, hN]) <;> rfl) h
    · refine EvC.gcE [10, 12, 65, 66, 67] [(0, 0), (1, 1), (3, 3)] 4 rfl (by (simp only [go_sem, hL, hN]) <;> rfl) h
  · have hcs : ∀ id, chM (o.map wdC) f id e = [(0, .cells [.tl 1 (f.length + 1) false]), (1, .arr 1 (f.map chC ++ [[.tv id e.2.length 0 e.2.length .rest]]) false), (3, .arr 1 (o.map wdC) true), (id, .arr 1 (e.2.map intC) false)] := fun id => by
      rw [chM, lastA, if_neg he, if_neg he]; rfl
    have hN : ∀ id, (f.map chC ++ [[AV.tv id e.2.length 0 e.2.length .rest]]).all AV.norefs = false := fun id => by rw [List.all_append]; simp [AV.norefs, AV.noref]
    have hRn : ∀ (K : List (Nat × Nat)) (v : AV), (f.map chC ++ [[v]]).map (fun c => c.map (AV.ren K)) = f.map chC ++ [[v.ren K]] := fun K v => by rw [List.map_append, chC_ren]; rfl
    rw [zM, hcs] at h
    rw [chX, hcs, hcs, hcs, lastA, if_neg he] at hM
    rcases hM with rfl | rfl | rfl
    · refine EvC.gcE [10, 12, 65, 66, 67] [(0, 0), (1, 1), (3, 3), (26, 2)] 4 rfl (by (simp only [go_sem, hL, hN, hRn]) <;> rfl) h
    · refine EvC.gcE [10, 12, 65, 66, 67] [(0, 0), (1, 1), (3, 3), (2, 2)] 4 rfl (by (simp only [go_sem, hL, hN, hRn]) <;> rfl) h
    · refine EvC.gcE [10, 12, 65, 66, 67] [(0, 0), (1, 1), (3, 3), (4, 2)] 4 rfl (by (simp only [go_sem, hL, hN, hRn]) <;> rfl) h
/-- Behind both passes: all rows literal. -/
theorem chains_lit {o : List Wd} {n k : Int} {b : Bool} {nx : Nat} {s : ZS} {hid : List Nat} {ro : Option Nat} {ds : DS} {c : Code} {Q : Exit → St → Prop}
    (h : EvC prog ⟨0, 3, hid, 94⟩ ro ds c ⟨[(10, .rf 0 0)], [], [(0, .cells [.tl 1 (zList s).length (zList s).isEmpty]), (1, .arr 1 ((zList s).map chC) false)], 2⟩ Q) :
    EvC prog ⟨0, 3, hid, 94⟩ ro ds c ⟨[(10, .rf 0 0), (12, .fn 61 [.rf 0 0]), (65, .tl 3 o.length o.isEmpty), (66, .sc (.int .i64 n)), (67, .sc (.int .i64 k)), (68, .sc (.bool b))], [], zM (o.map wdC) s, nx⟩ Q := by
  have hL := norefs_wds o
  rcases s with _ | ⟨f, e⟩
  · refine EvC.gcE [10] [(0, 0), (1, 1)] 2 rfl (by (simp only [go_sem, zM]) <;> rfl) h
  have hcl : (zList (some (f, e))).length = f.length + 1 := by simp [zList]
  have hce : (zList (some (f, e))).isEmpty = false := by simp [zList]
  have hcm : (zList (some (f, e))).map chC = f.map chC ++ [chC e] := by simp [zList]
  rw [hcl, hce, hcm] at h
  have hn : (f.map chC ++ [chC e]).all AV.norefs = true := by rw [List.all_append, norefs_chC]; simp [norefs_chC1]
  by_cases he : e.2 = []
  · obtain ⟨eb, es⟩ := e
    obtain rfl : es = [] := he
    have hcs : zM (o.map wdC) (some (f, (eb, []))) = [(0, .cells [.tl 1 (f.length + 1) false]), (1, .arr 1 (f.map chC ++ [chC (eb, [])]) false), (3, .arr 1 (o.map wdC) true)] := rfl
    rw [hcs]
    generalize f.map chC ++ [chC (eb, [])] = LL at h hn
    refine EvC.gcE [10] [(0, 0), (1, 1)] 2 rfl (by (simp only [go_sem, hn, hL]) <;> rfl) h
  · have hcs : zM (o.map wdC) (some (f, e)) = [(0, .cells [.tl 1 (f.length + 1) false]), (1, .arr 1 (f.map chC ++ [[.tv 2 e.2.length 0 e.2.length .rest]]) false), (3, .arr 1 (o.map wdC) true), (2, .arr 1 (e.2.map intC) false)] := by
      rw [zM, chM, lastA, if_neg he, if_neg he]; rfl
    rw [hcs]
    have hfl : (f.map chC).length = f.length := List.length_map _
    have hg : (f.map chC ++ [[AV.tv 2 e.2.length 0 e.2.length .rest]])[f.length]? = some [.tv 2 e.2.length 0 e.2.length .rest] := by rw [List.getElem?_append_right (by omega), hfl, Nat.sub_self]; rfl
    have hs : ∀ v, (f.map chC ++ [[v]]).set f.length [.sl false (e.2.map intC) .unk] = f.map chC ++ [chC e] := fun v => by
      rw [List.set_append_right _ _ (by omega), hfl, Nat.sub_self, ← chC_cons he]; rfl
    generalize f.map chC ++ [chC e] = LL at h hs hn
    refine EvC.frz 2 (by (simp only [go_sem, List.length_map, hL]) <;> rfl) ?_
    refine EvC.snapE 1 f.length (by (simp only [go_sem, hg, List.length_map, hs, hL]) <;> rfl) ?_
    refine EvC.gcE [10] [(0, 0), (1, 1)] 2 rfl (by (simp only [go_sem, hn, hL]) <;> rfl) h
def rowsD (cs : List Wd) (k : Nat) : List (List AV) := (cs.take k).map chD ++ (cs.drop k).map chC
theorem rowsD_len (cs : List Wd) (k : Nat) : (rowsD cs k).length = cs.length := by simp [rowsD]; omega
theorem rowsD_get {cs : List Wd} {k : Nat} {w : Wd} (h : cs[k]? = some w) : (rowsD cs k)[k]? = some (chC w) := by
  obtain ⟨hi, he⟩ := List.getElem?_eq_some_iff.1 h
  have hl : ((cs.take k).map chD).length = k := by simp; omega
  unfold rowsD
  rw [List.getElem?_append_right (by omega), hl, Nat.sub_self, List.drop_eq_getElem_cons hi, he]; rfl
theorem rowsD_set {cs : List Wd} {k : Nat} {w : Wd} (h : cs[k]? = some w) : (rowsD cs k).set k (chD w) = rowsD cs (k + 1) := by
  obtain ⟨hi, he⟩ := List.getElem?_eq_some_iff.1 h
  have hl : ((cs.take k).map chD).length = k := by simp; omega
  unfold rowsD
  rw [List.set_append_right _ _ (by omega), hl, Nat.sub_self, List.drop_eq_getElem_cons hi, he, List.take_succ_eq_append_getElem hi, he, List.map_append, List.append_assoc]; rfl
@[go_sem] theorem norefs_rowsD (cs : List Wd) (k : Nat) : (rowsD cs k).all AV.norefs = true := by
  unfold rowsD
  rw [List.all_append, norefs_chC, Bool.and_true, List.all_eq_true]
  intro x hx
  obtain ⟨w, _, rfl⟩ := List.mem_map.1 hx
  simp [chD, AV.norefs, AV.noref]
theorem clip64_is (nl : Bool) (es : List (List AV)) (c : Cp) (h1 : ∀ c ∈ es, c.length = 1) (hn : es.all AV.norefs = true) : PureIs prog 64 [.sl nl es c] (.sl nl es .full) := by
  refine PureIs.of (nv := 1) (hid := [2]) func64 rfl (by kernel_rfl) (by simp [ntmps64]) fun _ => ?_
  rw [ntmps64, results64]
  refine EvC.seq (EvC.rg (by (simp only [go_sem]) <;> rfl) (by simp) ?_)
  refine EvC.seq (EvC.rg (by (simp only [go_sem, Int.toNat_natCast, List.drop_zero, List.take_length]) <;> rfl) (by simp; try exact h1) ?_)
  refine EvC.ret ⟨.inl rfl, _, (by (simp only [go_sem]) <;> rfl), ?_, by simp [AV.noref, hn]⟩
  simp only [go_sem]
theorem chC_form {w : Wd} (hw : WdOk w) : ∃ ev, chC w = [.sl w.1 (w.2.map intC) ev] := by
  by_cases h : w.2 = []
  · exact ⟨.zer, by rw [chC_nil h, h]; rfl⟩
  · exact ⟨.unk, by rw [chC_cons h, hw.ne h]⟩
theorem zok_of {s : ZS} (h : ∀ f e, s = some (f, e) → e.2.length ≤ 256 ∧ WdOk e ∧ ∀ v ∈ f, WdOk v) : ZOk s := by
  rcases s with _ | ⟨f, e⟩
  · exact ZOk.none
  · intro v hv
    obtain ⟨_, h1, h2⟩ := h f e rfl
    simp only [zList, List.mem_append, List.mem_singleton] at hv
    rcases hv with hv | rfl
    · exact h2 v hv
    · exact h1
theorem zput_keep {j : Bool} {s : ZS} {w : Wd} (h : ∀ f e, s = some (f, e) → e.2.length ≤ 256 ∧ WdOk e ∧ ∀ v ∈ f, WdOk v) (hw : WdOk w) (hl : w.2.length ≤ 256) :
    ∀ f e, zput j s w = some (f, e) → e.2.length ≤ 256 ∧ WdOk e ∧ ∀ v ∈ f, WdOk v := fun f e he => by
  have h1 := zput_last (j := j) (s := s) hl f e he
  have h2 := zput_ok (j := j) (zok_of h) hw
  rw [he] at h2
  exact ⟨h1, h2 e (by simp [zList]), fun v hv => h2 v (by simp [zList, hv])⟩
set_option maxHeartbeats 4000000 in
theorem chains36_gen {m : Mach} (hv : Valid m) (hc0 : checkM m = 0) (ln : Bool) (l : List Wd) (lc : Cp) (hll : l.length < 1000000) (hwl : ∀ w ∈ l, w.2.length < 1000000) (hok : ∀ w ∈ l, WdOk w) :
    PureIs prog 36 [.ag m.cells, .sl ln (l.map wdC) lc] (chainsWR m l) := by
  refine PureIs.of (nv := 3) (hid := [4, 5, 6, 8, 9, 10, 11, 12, 14, 15, 17, 18, 19, 23, 27, 28, 29, 30, 31, 39, 43, 44, 45, 46, 56, 57, 58, 65, 66, 67, 68, 72, 73, 75, 79, 80, 81]) func36 rfl (by kernel_rfl) (by simp [ntmps36]) fun _ => ?_
  rw [ntmps36, results36]
  refine EvC.seq (EvC.rg (by (simp only [go_sem, Mach.cells]) <;> rfl) (by simp) ?_)
  refine EvC.frzB 0 (by (simp only [go_sem]) <;> rfl) ?_
  refine EvC.seq ?_
  have hrs : ∀ r ∈ m.rows, r.2.length < 1000000 := hv.small
  apply EvC.seq
  apply EvC.tr
  · apply Tr.run
    · (simp only [go_sem, Mach.cells]) <;> rfl
    · simp
    apply Tr.cons
    · exact .call rfl rfl (by (simp only [go_sem]) <;> rfl) (by (simp only [go_sem]) <;> rfl) (by (simp only [go_sem]) <;> rfl) (by (simp only [go_sem]) <;> rfl) (by (simp only [go_sem]) <;> rfl) (check_is m hrs)
    apply Tr.done
    · (simp only [go_sem, hc0]) <;> rfl
    · simp
  refine EvC.seq (EvC.rg (by (simp only [go_sem]) <;> rfl) (by simp) ?_)
  refine EvC.cond_false (by (simp only [go_sem]) <;> rfl) ?_
  refine EvC.skip ?_
  refine EvC.seq ?_
  refine EvC.seq (EvC.rg (by (simp only [go_sem, List.length_map]) <;> rfl) (by simp) ?_)
  unfold chainsWR
  by_cases hbig : 4096 < l.length
  · have h1 : decide ((4096 : Int) < l.length) = true := decide_eq_true (by omega)
    refine EvC.cond_true (by (simp only [go_sem, h1]) <;> rfl) ?_
    refine EvC.seq (EvC.rg (by (simp only [go_sem]) <;> rfl) (by simp) ?_)
    rw [if_pos hbig]
    refine EvC.ret ⟨.inl rfl, _, (by (simp only [go_sem]) <;> rfl), ?_, rfl⟩
    simp only [go_sem]
  have h1 : decide ((4096 : Int) < l.length) = false := decide_eq_false (by omega)
  refine EvC.cond_false (by (simp only [go_sem, h1]) <;> rfl) ?_
  rw [if_neg hbig]
  refine EvC.skip ?_
  refine EvC.seq ?_
  refine EvC.seq (EvC.rg (by (simp only [go_sem, List.length_map]) <;> rfl) (by simp) ?_)
  refine EvC.block ?_  -- 0
  refine EvC.loopS (σ := Nat) (fun k => ⟨[(1, .sl ln (l.map wdC) lc), (2, .ia [.sc (.int .i64 m.ins), .sc (.int .i64 m.outs), .sl m.nl (m.rows.map rowC) .unk]), (28, .sl ln (l.map wdC) lc), (29, .sc (.int .i64 l.length)), (30, .sc (.int .i64 k))], [], [], 0⟩) (fun k => l.length - k) (fun k => k ≤ l.length ∧ wordsErr m.ins l = wordsErr m.ins (l.drop k)) [1, 2, 28, 29, 30] 0 ?_ ?_
  · exact ⟨[], 0, rfl, (by (simp only [go_sem, Int.natCast_zero]) <;> rfl), Nat.zero_le _, rfl⟩
  rintro k ⟨hk1, hinv⟩
  refine EvC.seq (EvC.rg (by (simp only [go_sem]) <;> rfl) (by simp) ?_)
  refine EvC.seq ?_
  refine EvC.cond (by (simp only [go_sem]) <;> rfl) (fun hc => ?_) (fun hc => ?_)
  · -- a word
    have hkl : k < l.length := by simpa using hc
    clear hc
    have he : l[k]? = some (l[k]'hkl) := List.getElem?_eq_getElem hkl
    have hdr : l.drop k = l[k]'hkl :: l.drop (k + 1) := List.drop_eq_getElem_cons hkl
    have hwm := hwl _ (List.getElem_mem hkl)
    generalize l[k]'hkl = w at he hdr hwm
    have hinv : wordsErr m.ins l = if wordErr m.ins w.2 = 0 then wordsErr m.ins (l.drop (k + 1)) else wordErr m.ins w.2 := by rw [hinv, hdr]; rfl
    have hin : (k : Int).toNat = k := Int.toNat_natCast k
    have q := wordCheck_is w.1 w.2 .unk m.ins hwm
    refine EvC.skip ?_
    refine EvC.seq ?_
    refine EvC.block ?_  -- 1
    refine EvC.seq (EvC.rg (by (simp only [go_sem, he, wdC, hin]) <;> rfl) (by simp) ?_)
    apply EvC.seq
    apply EvC.tr
    · apply Tr.run
      · (simp only [go_sem]) <;> rfl
      · simp
      apply Tr.cons
      · exact .call rfl rfl (by (simp only [go_sem]) <;> rfl) (by (simp only [go_sem]) <;> rfl) (by (simp only [go_sem]) <;> rfl) (by (simp only [go_sem]) <;> rfl) (by (simp only [go_sem]) <;> rfl) (q)
      apply Tr.done
      · (simp only [go_sem]) <;> rfl
      · simp
    refine EvC.seq (EvC.rg (by (simp only [go_sem]) <;> rfl) (by simp) ?_)
    by_cases h0 : wordErr m.ins w.2 = 0
    · rw [if_pos h0] at hinv
      refine EvC.cond_false (by (simp only [go_sem, h0]) <;> rfl) ?_
      refine EvC.skip ?_
      refine EvC.rg (by (simp only [go_sem]) <;> rfl) (by exact inI64_of (by omega) (by omega)) ?_
      exact ⟨[], k + 1, rfl, (by (simp only [go_sem, Int.natCast_add, Int.natCast_one]) <;> rfl), ⟨hkl, hinv⟩, by omega⟩
    · rw [if_neg h0] at hinv
      refine EvC.cond_true (by (simp only [go_sem, h0]) <;> rfl) ?_
      refine EvC.seq (EvC.rg (by (simp only [go_sem]) <;> rfl) (by simp) ?_)
      rw [hinv, if_pos h0]
      refine EvC.ret ⟨.inl rfl, _, (by (simp only [go_sem]) <;> rfl), ?_, rfl⟩
      simp only [go_sem]
  refine EvC.exit ?_  -- 0
  obtain rfl : l.length = k := by have : ¬ k < l.length := by simpa using hc
                                  omega
  clear hc
  rw [List.drop_length] at hinv
  have hW : wordsErr m.ins l = 0 := hinv
  have hwok : ∀ w ∈ l, wordErr m.ins w.2 = 0 := fun w hw => wordsErr_zero hW w hw
  rw [if_neg (fun h => h hW)]
  clear hinv
  refine EvC.seq (EvC.rg (by (simp only [go_sem]) <;> rfl) (by simp) ?_)
  refine EvC.ownC 1 0 1 (by (simp only [go_sem]) <;> rfl) ?_
  refine EvC.thaw 3 (by (simp only [go_sem]) <;> rfl) ?_
  refine EvC.seq (EvC.rg (by (simp only [go_sem]) <;> rfl) (by simp) ?_)
  refine EvC.seq ?_
  refine EvC.seq (EvC.rg (by (simp only [go_sem, List.length_map]) <;> rfl) (by simp) ?_)
  refine EvC.block ?_  -- 2
  refine EvC.loopS (σ := Nat × ZS × List Wd) (fun p => ⟨[(2, .ia [.sc (.int .i64 m.ins), .sc (.int .i64 m.outs), .sl m.nl (m.rows.map rowC) .unk]), (10, .rf 0 0), (11, .tl 3 p.2.2.length p.2.2.isEmpty), (12, .fn 61 [.rf 0 0]), (43, .sl ln (l.map wdC) lc), (44, .sc (.int .i64 l.length)), (45, .sc (.int .i64 p.1))], [], zM (p.2.2.map wdC) p.2.1, 4⟩) (fun p => l.length - p.1) (fun p => p.1 ≤ l.length ∧ zpass1 m l (none, []) = zpass1 m (l.drop p.1) p.2 ∧ (∀ w ∈ p.2.2, w ∈ l) ∧ zLen p.2.1 ≤ p.1 ∧ p.2.2.length ≤ p.1 ∧ ∀ f e, p.2.1 = some (f, e) → e.2.length ≤ 256 ∧ WdOk e ∧ ∀ v ∈ f, WdOk v) [2, 10, 11, 12, 43, 44, 45] 4 ?_ ?_
  · exact ⟨[(1, 0), (3, 1), (2, 3)], (0, none, []), rfl, (by (simp only [go_sem, zM, Int.natCast_zero, List.map_nil, List.length_nil, List.isEmpty_nil]) <;> rfl), Nat.zero_le _, rfl, (fun _ h => by cases h), Nat.le_refl _, Nat.le_refl _, (fun _ _ h => by cases h)⟩
  rintro ⟨k, s, o⟩ ⟨hk1, hinv, hom, hsl, hol, hse⟩
  simp only at hk1 hinv hom hsl hol hse ⊢
  refine EvC.seq (EvC.rg (by (simp only [go_sem]) <;> rfl) (by simp) ?_)
  refine EvC.seq ?_
  refine EvC.cond (by (simp only [go_sem]) <;> rfl) (fun hc => ?_) (fun hc => ?_)
  rotate_left
  · refine EvC.exit ?_  -- 2
    obtain rfl : l.length = k := by have : ¬ k < l.length := by simpa using hc
                                    omega
    clear hc
    rw [List.drop_length] at hinv
    have hinv : zpass1 m l (none, []) = (s, o) := hinv
    have hLn := norefs_wds o
    have hlenO : (o.map wdC).length = o.length := List.length_map _
    have hlk : mlook (zM (o.map wdC) s) 3 = some (.arr 1 (o.map wdC) true) := by
      rcases s with _ | ⟨f, e⟩
      · rfl
      · rfl
    refine EvC.seq ?_
    refine EvC.seq (EvC.rg (by (simp only [go_sem, hlk, hlenO]) <;> rfl) (by simp) ?_)
    refine EvC.block ?_  -- 4
    refine EvC.loopS (σ := Nat × ZS) (fun p => ⟨[(10, .rf 0 0), (12, .fn 61 [.rf 0 0]), (65, .tl 3 o.length o.isEmpty), (66, .sc (.int .i64 o.length)), (67, .sc (.int .i64 p.1))], [], zM (o.map wdC) p.2, 4⟩) (fun p => o.length - p.1) (fun p => p.1 ≤ o.length ∧ zpass2 true o s = zpass2 (decide ((p.1 : Int) = 0)) (o.drop p.1) p.2 ∧ zLen p.2 ≤ l.length + p.1 ∧ ∀ f e, p.2 = some (f, e) → e.2.length ≤ 256 ∧ WdOk e ∧ ∀ v ∈ f, WdOk v) [10, 12, 65, 66, 67] 4 ?_ ?_
    · obtain ⟨s2, rfl⟩ : ∃ s2 : ZS, s = s2 := ⟨_, rfl⟩
      clear hlk
      rcases s with _ | ⟨f, e⟩
      · have hcs : ∀ L, zM L none = [(0, .cells [.tl 1 0 true]), (1, .arr 1 [] false), (3, .arr 1 L true)] := fun _ => rfl
        exact ⟨[(0, 0), (1, 1), (3, 3)], (0, none), rfl, (by rw [hcs]; (simp only [go_sem, hLn, Int.natCast_zero]) <;> rfl), Nat.zero_le _, rfl, hsl, hse⟩
      by_cases he2 : e.2 = []
      · obtain ⟨eb, es⟩ := e
        obtain rfl : es = [] := he2
        have hcs : ∀ L, zM L (some (f, (eb, []))) = [(0, .cells [.tl 1 (f.length + 1) false]), (1, .arr 1 (f.map chC ++ [[.sl eb [] .zer]]) false), (3, .arr 1 L true)] := fun _ => rfl
        have hN : (f.map chC ++ [[AV.sl eb [] .zer]]).all AV.norefs = true := by rw [List.all_append, norefs_chC]; rfl
        exact ⟨[(0, 0), (1, 1), (3, 3)], (0, (some (f, (eb, [])))), rfl, (by rw [hcs]; (simp only [go_sem, hLn, hN, Int.natCast_zero]) <;> rfl), Nat.zero_le _, rfl, hsl, hse⟩
      · have hcs : ∀ L, zM L (some (f, e)) = [(0, .cells [.tl 1 (f.length + 1) false]), (1, .arr 1 (f.map chC ++ [[.tv 2 e.2.length 0 e.2.length .rest]]) false), (3, .arr 1 L true), (2, .arr 1 (e.2.map intC) false)] := fun L => by
          rw [zM, chM, lastA, if_neg he2, if_neg he2]; rfl
        have hN : (f.map chC ++ [[AV.tv 2 e.2.length 0 e.2.length .rest]]).all AV.norefs = false := by rw [List.all_append]; simp [AV.norefs, AV.noref]
        have hRn : ∀ v : AV, (f.map chC ++ [[v]]).map (fun c => c.map (AV.ren [(0, 0), (1, 1), (3, 3), (2, 2)])) = f.map chC ++ [[v.ren [(0, 0), (1, 1), (3, 3), (2, 2)]]] := fun v => by rw [List.map_append, chC_ren]; rfl
        exact ⟨[(0, 0), (1, 1), (3, 3), (2, 2)], (0, (some (f, e))), rfl, (by rw [hcs]; (simp only [go_sem, hLn, hN, hRn, Int.natCast_zero]) <;> rfl), Nat.zero_le _, rfl, hsl, hse⟩
    rintro ⟨k, s2⟩ ⟨hk2, hinv2, hsl2, hse2⟩
    simp only at hk2 hinv2 hsl2 hse2 ⊢
    refine EvC.seq (EvC.rg (by (simp only [go_sem]) <;> rfl) (by simp) ?_)
    refine EvC.seq ?_
    refine EvC.cond (by (simp only [go_sem]) <;> rfl) (fun hc => ?_) (fun hc => ?_)
    rotate_left
    · refine EvC.exit ?_  -- 4
      obtain rfl : o.length = k := by have : ¬ k < o.length := by simpa using hc
                                      omega
      clear hc
      rw [List.drop_length] at hinv2
      have hinv2 : zpass2 true o s = s2 := by rw [hinv2]; rfl
      have hCL : chainsW m l = zList s2 := by unfold chainsW; rw [hinv]; simp only; rw [hinv2]
      rw [hCL]
      refine chains_lit ?_
      have hcsl : (zList s2).length < 1000000 := by
        have : (zList s2).length = zLen s2 := by cases s2 <;> simp [zList, zLen]
        omega
      have hcsok : ∀ w ∈ zList s2, WdOk w := zok_of hse2
      generalize zList s2 = cs at hcsl hcsok
      refine EvC.seq ?_
      refine EvC.seq (EvC.rg (by (simp only [go_sem, List.length_map]) <;> rfl) (by simp) ?_)
      refine EvC.block ?_  -- 6
      have hz0 : cs.map chC = rowsD cs 0 := by simp [rowsD]
      refine EvC.loopS (σ := Nat) (fun k => ⟨[(10, .rf 0 0), (79, .sc (.int .i64 cs.length)), (80, .sc (.int .i64 k))], [], [(0, .cells [.tl 1 cs.length cs.isEmpty]), (1, .arr 1 (rowsD cs k) false)], 2⟩) (fun k => cs.length - k) (fun k => k ≤ cs.length) [10, 79, 80] 2 ?_ ?_
      · exact ⟨[(0, 0), (1, 1)], 0, rfl, (by rw [hz0]; (simp only [go_sem, Int.natCast_zero]) <;> rfl), Nat.zero_le _⟩
      intro k hk3
      have hdl := rowsD_len cs k
      refine EvC.seq (EvC.rg (by (simp only [go_sem]) <;> rfl) (by simp) ?_)
      refine EvC.seq ?_
      refine EvC.cond (by (simp only [go_sem]) <;> rfl) (fun hc => ?_) (fun hc => ?_)
      rotate_left
      · refine EvC.exit ?_  -- 6
        obtain rfl : cs.length = k := by have : ¬ k < cs.length := by simpa using hc
                                         omega
        clear hc
        have hfin : rowsD cs cs.length = cs.map chD := by simp [rowsD]
        have hnD := norefs_rowsD cs cs.length
        have h1D : ∀ c ∈ rowsD cs cs.length, c.length = 1 := by
          rw [hfin]; intro c hc; obtain ⟨w, _, rfl⟩ := List.mem_map.1 hc; rfl
        rw [← hfin]
        generalize rowsD cs cs.length = RR at *
        have q := clip64_is cs.isEmpty RR .unk h1D hnD
        refine EvC.frzD 1 (by (simp only [go_sem, hnD, hdl]) <;> rfl) ?_
        apply EvC.seq
        apply EvC.tr
        · apply Tr.run
          · (simp only [go_sem]) <;> rfl
          · simp
          apply Tr.cons
          · exact .call rfl rfl (by (simp only [go_sem]) <;> rfl) (by (simp only [go_sem]) <;> rfl) (by (simp only [go_sem, hnD]) <;> rfl) (by (simp only [go_sem, hnD]) <;> rfl) (by (simp only [go_sem]) <;> rfl) (q)
          apply Tr.done
          · (simp only [go_sem]) <;> rfl
          · simp
        refine EvC.ret ⟨.inl rfl, _, (by (simp only [go_sem]) <;> rfl), ?_, by simp [AV.noref, AV.norefs, hnD]⟩
        simp only [go_sem]
      have hkl : k < cs.length := by simpa using hc
      clear hc
      have hwe : cs[k]? = some (cs[k]'hkl) := List.getElem?_eq_getElem hkl
      generalize cs[k]'hkl = w at hwe
      have hg := rowsD_get hwe
      have hs := rowsD_set hwe
      obtain ⟨ev, hev⟩ := chC_form (hcsok w (List.mem_of_getElem? hwe))
      rw [hev] at hg
      unfold chD at hs
      have hin : (k : Int).toNat = k := Int.toNat_natCast k
      have q := clip47_is w.1 w.2 ev
      refine EvC.skip ?_
      refine EvC.seq ?_
      refine EvC.block ?_  -- 7
      refine EvC.seq (EvC.rg (by (simp only [go_sem]) <;> rfl) (by simp) ?_)
      apply EvC.drwA mixed  -- R31
      · apply Tr.run
        · (simp only [go_sem, hdl, hg, hin]) <;> rfl
        · simp [hkl]
        apply Tr.cons
        · exact .call rfl rfl (by (simp only [go_sem]) <;> rfl) (by (simp only [go_sem]) <;> rfl) (by (simp only [go_sem]) <;> rfl) (by (simp only [go_sem]) <;> rfl) (by (simp only [go_sem]) <;> rfl) q
        apply Tr.done
        · (simp only [go_sem, hdl, hg, hin, hs]) <;> rfl
        · simp [hkl]
      · kernel_rfl
      refine EvC.rg (by (simp only [go_sem]) <;> rfl) (by exact inI64_of (by omega) (by omega)) ?_
      exact ⟨[(0, 0), (1, 1)], k + 1, rfl, (by (simp only [go_sem, Int.natCast_add, Int.natCast_one]) <;> rfl), hkl, by omega⟩
    have hkl : k < o.length := by simpa using hc
    clear hc
    have hwe : o[k]? = some (o[k]'hkl) := List.getElem?_eq_getElem hkl
    have hdr : o.drop k = o[k]'hkl :: o.drop (k + 1) := List.drop_eq_getElem_cons hkl
    have hwm := hom _ (List.getElem_mem hkl)
    generalize o[k]'hkl = w at hwe hdr hwm
    have hwo := hwok w hwm
    have hwb := hwl w hwm
    have hwk := hok w hwm
    have hww : w.2.length ≤ 256 := by
      unfold wordErr at hwo
      split at hwo
      · cases hwo
      · rename_i h; omega
    have hin : (k : Int).toNat = k := Int.toNat_natCast k
    have hst : zpass2 true o s = zpass2 (decide (((k + 1 : Nat) : Int) = 0)) (o.drop (k + 1)) (zput (decide ((k : Int) = 0)) s2 w) := by
      rw [hinv2, hdr, zpass2, decide_eq_false (show ¬ ((k + 1 : Nat) : Int) = 0 by omega)]
    refine EvC.skip ?_
    refine EvC.mergeC (α := ZS) (fun p => ⟨[(10, .rf 0 0), (12, .fn 61 [.rf 0 0]), (65, .tl 3 o.length o.isEmpty), (66, .sc (.int .i64 o.length)), (67, .sc (.int .i64 k))], [], zM (o.map wdC) p, 4⟩)
      (fun p => zpass2 true o s = zpass2 (decide (((k + 1 : Nat) : Int) = 0)) (o.drop (k + 1)) p ∧ zLen p ≤ l.length + (k + 1) ∧ ∀ f e, p = some (f, e) → e.2.length ≤ 256 ∧ WdOk e ∧ ∀ v ∈ f, WdOk v) ?_ ?_
    rotate_left
    · rintro s2 ⟨j1, j3, j5⟩
      rcases s2 with _ | ⟨f, e⟩
      · have hcs : ∀ L, zM L none = [(0, .cells [.tl 1 0 true]), (1, .arr 1 [] false), (3, .arr 1 L true)] := fun _ => rfl
        refine EvC.rg (by (simp only [go_sem]) <;> rfl) (by exact inI64_of (by omega) (by omega)) ?_
        exact ⟨[(0, 0), (1, 1), (3, 3)], (k + 1, none), rfl, (by rw [hcs]; (simp only [go_sem, hLn, Int.natCast_add, Int.natCast_one]) <;> rfl), ⟨hkl, j1, j3, j5⟩, by simp only; omega⟩
      by_cases he2 : e.2 = []
      · obtain ⟨eb, es⟩ := e
        obtain rfl : es = [] := he2
        have hcs : ∀ L, zM L (some (f, (eb, []))) = [(0, .cells [.tl 1 (f.length + 1) false]), (1, .arr 1 (f.map chC ++ [[.sl eb [] .zer]]) false), (3, .arr 1 L true)] := fun _ => rfl
        have hN : (f.map chC ++ [[AV.sl eb [] .zer]]).all AV.norefs = true := by rw [List.all_append, norefs_chC]; rfl
        refine EvC.rg (by (simp only [go_sem]) <;> rfl) (by exact inI64_of (by omega) (by omega)) ?_
        exact ⟨[(0, 0), (1, 1), (3, 3)], (k + 1, (some (f, (eb, [])))), rfl, (by rw [hcs]; (simp only [go_sem, hLn, hN, Int.natCast_add, Int.natCast_one]) <;> rfl), ⟨hkl, j1, j3, j5⟩, by simp only; omega⟩
      · have hcs : ∀ L, zM L (some (f, e)) = [(0, .cells [.tl 1 (f.length + 1) false]), (1, .arr 1 (f.map chC ++ [[.tv 2 e.2.length 0 e.2.length .rest]]) false), (3, .arr 1 L true), (2, .arr 1 (e.2.map intC) false)] := fun L => by
          rw [zM, chM, lastA, if_neg he2, if_neg he2]; rfl
        have hN : (f.map chC ++ [[AV.tv 2 e.2.length 0 e.2.length .rest]]).all AV.norefs = false := by rw [List.all_append]; simp [AV.norefs, AV.noref]
        have hRn : ∀ v : AV, (f.map chC ++ [[v]]).map (fun c => c.map (AV.ren [(0, 0), (1, 1), (3, 3), (2, 2)])) = f.map chC ++ [[v.ren [(0, 0), (1, 1), (3, 3), (2, 2)]]] := fun v => by rw [List.map_append, chC_ren]; rfl
        refine EvC.rg (by (simp only [go_sem]) <;> rfl) (by exact inI64_of (by omega) (by omega)) ?_
        exact ⟨[(0, 0), (1, 1), (3, 3), (2, 2)], (k + 1, (some (f, e))), rfl, (by rw [hcs]; (simp only [go_sem, hLn, hN, hRn, Int.natCast_add, Int.natCast_one]) <;> rfl), ⟨hkl, j1, j3, j5⟩, by simp only; omega⟩
    refine EvC.block ?_  -- 5
    rcases s2 with _ | ⟨f, e⟩
    · have hcs : ∀ L, zM L none = [(0, .cells [.tl 1 0 true]), (1, .arr 1 [] false), (3, .arr 1 L true)] := fun _ => rfl
      rw [hcs]
      refine EvC.seq (EvC.rg (by (simp only [go_sem, hwe, wdC, hin]) <;> rfl) (by simp; exact hkl) ?_)
      apply EvC.region  -- R26
      apply XR.run
      · (simp only [go_sem]) <;> rfl
      · simp
      refine XR.gcTo ⟨[(10, .rf 0 0), (12, .fn 61 [.rf 0 0]), (65, .tl 3 o.length o.isEmpty), (66, .sc (.int .i64 o.length)), (67, .sc (.int .i64 k)), (72, .fn 61 [.rf 0 0]), (73, .sl w.1 (w.2.map intC) .unk), (75, .sc (.bool (decide ((k : Int) = 0))))], [], zM (o.map wdC) none, 4⟩ [10, 12, 65, 66, 67, 72, 73, 75] [(0, 0), (1, 1), (3, 3)] rfl (by rw [hcs]; (simp only [go_sem, hLn]) <;> rfl) ?_
      apply XR.callI rfl rfl (by (simp only [go_sem]) <;> rfl) (by (simp only [go_sem]) <;> rfl) (by (simp only [go_sem]) <;> rfl)
      refine put_is hLn none w .unk (decide ((k : Int) = 0)) (zok_of hse2) hwk (by omega) (fun f e h => by have := (hse2 f e h).1; omega) hwb ?_
      intro M nx hM
      refine XR.nil ?_
      refine ⟨rfl, zput (decide ((k : Int) = 0)) none w, ⟨hst, Nat.le_trans (zput_len _ none w) (Nat.succ_le_succ hsl2), fun f9 e9 h9 => zput_keep (j := decide ((k : Int) = 0)) hse2 hwk hww f9 e9 h9⟩, fun c Q h => ?_⟩
      exact put_gc2 hM h
    by_cases he2 : e.2 = []
    · obtain ⟨eb, es⟩ := e
      obtain rfl : es = [] := he2
      have hcs : ∀ L, zM L (some (f, (eb, []))) = [(0, .cells [.tl 1 (f.length + 1) false]), (1, .arr 1 (f.map chC ++ [[.sl eb [] .zer]]) false), (3, .arr 1 L true)] := fun _ => rfl
      have hN : (f.map chC ++ [[AV.sl eb [] .zer]]).all AV.norefs = true := by rw [List.all_append, norefs_chC]; rfl
      rw [hcs]
      refine EvC.seq (EvC.rg (by (simp only [go_sem, hwe, wdC, hin]) <;> rfl) (by simp; exact hkl) ?_)
      apply EvC.region  -- R26
      apply XR.run
      · (simp only [go_sem]) <;> rfl
      · simp
      refine XR.gcTo ⟨[(10, .rf 0 0), (12, .fn 61 [.rf 0 0]), (65, .tl 3 o.length o.isEmpty), (66, .sc (.int .i64 o.length)), (67, .sc (.int .i64 k)), (72, .fn 61 [.rf 0 0]), (73, .sl w.1 (w.2.map intC) .unk), (75, .sc (.bool (decide ((k : Int) = 0))))], [], zM (o.map wdC) (some (f, (eb, []))), 4⟩ [10, 12, 65, 66, 67, 72, 73, 75] [(0, 0), (1, 1), (3, 3)] rfl (by rw [hcs]; (simp only [go_sem, hLn, hN]) <;> rfl) ?_
      apply XR.callI rfl rfl (by (simp only [go_sem]) <;> rfl) (by (simp only [go_sem]) <;> rfl) (by (simp only [go_sem]) <;> rfl)
      refine put_is hLn (some (f, (eb, []))) w .unk (decide ((k : Int) = 0)) (zok_of hse2) hwk (by omega) (fun f e h => by have := (hse2 f e h).1; omega) hwb ?_
      intro M nx hM
      refine XR.nil ?_
      refine ⟨rfl, zput (decide ((k : Int) = 0)) (some (f, (eb, []))) w, ⟨hst, Nat.le_trans (zput_len _ (some (f, (eb, []))) w) (Nat.succ_le_succ hsl2), fun f9 e9 h9 => zput_keep (j := decide ((k : Int) = 0)) hse2 hwk hww f9 e9 h9⟩, fun c Q h => ?_⟩
      exact put_gc2 hM h
    · have hcs : ∀ L, zM L (some (f, e)) = [(0, .cells [.tl 1 (f.length + 1) false]), (1, .arr 1 (f.map chC ++ [[.tv 2 e.2.length 0 e.2.length .rest]]) false), (3, .arr 1 L true), (2, .arr 1 (e.2.map intC) false)] := fun L => by
        rw [zM, chM, lastA, if_neg he2, if_neg he2]; rfl
      have hN : (f.map chC ++ [[AV.tv 2 e.2.length 0 e.2.length .rest]]).all AV.norefs = false := by rw [List.all_append]; simp [AV.norefs, AV.noref]
      have hRn : ∀ v : AV, (f.map chC ++ [[v]]).map (fun c => c.map (AV.ren [(0, 0), (1, 1), (3, 3), (2, 2)])) = f.map chC ++ [[v.ren [(0, 0), (1, 1), (3, 3), (2, 2)]]] := fun v => by rw [List.map_append, chC_ren]; rfl
      rw [hcs]
      refine EvC.seq (EvC.rg (by (simp only [go_sem, hwe, wdC, hin]) <;> rfl) (by simp; exact hkl) ?_)
      apply EvC.region  -- R26
      apply XR.run
      · (simp only [go_sem]) <;> rfl
      · simp
      refine XR.gcTo ⟨[(10, .rf 0 0), (12, .fn 61 [.rf 0 0]), (65, .tl 3 o.length o.isEmpty), (66, .sc (.int .i64 o.length)), (67, .sc (.int .i64 k)), (72, .fn 61 [.rf 0 0]), (73, .sl w.1 (w.2.map intC) .unk), (75, .sc (.bool (decide ((k : Int) = 0))))], [], zM (o.map wdC) (some (f, e)), 4⟩ [10, 12, 65, 66, 67, 72, 73, 75] [(0, 0), (1, 1), (3, 3), (2, 2)] rfl (by rw [hcs]; (simp only [go_sem, hLn, hN, hRn]) <;> rfl) ?_
      apply XR.callI rfl rfl (by (simp only [go_sem]) <;> rfl) (by (simp only [go_sem]) <;> rfl) (by (simp only [go_sem]) <;> rfl)
      refine put_is hLn (some (f, e)) w .unk (decide ((k : Int) = 0)) (zok_of hse2) hwk (by omega) (fun f e h => by have := (hse2 f e h).1; omega) hwb ?_
      intro M nx hM
      refine XR.nil ?_
      refine ⟨rfl, zput (decide ((k : Int) = 0)) (some (f, e)) w, ⟨hst, Nat.le_trans (zput_len _ (some (f, e)) w) (Nat.succ_le_succ hsl2), fun f9 e9 h9 => zput_keep (j := decide ((k : Int) = 0)) hse2 hwk hww f9 e9 h9⟩, fun c Q h => ?_⟩
      exact put_gc2 hM h
  have hkl : k < l.length := by simpa using hc
  clear hc
  have he : l[k]? = some (l[k]'hkl) := List.getElem?_eq_getElem hkl
  have hdr : l.drop k = l[k]'hkl :: l.drop (k + 1) := List.drop_eq_getElem_cons hkl
  have hwm := List.getElem_mem hkl
  generalize l[k]'hkl = w at he hdr hwm
  have hwo := hwok w hwm
  have hwb := hwl w hwm
  have hwk := hok w hwm
  have hww : w.2.length ≤ 256 := by
    unfold wordErr at hwo
    split at hwo
    · cases hwo
    · rename_i h; omega
  have hin : (k : Int).toNat = k := Int.toNat_natCast k
  have hr0 : 0 < m.rows.length := by have := hv.rows; omega
  have q := after63_is hv 0 ⟨by omega, by omega⟩ w.1 w.2 .unk hwo hwb
  refine EvC.skip ?_
  have hLn := norefs_wds o
  refine EvC.mergeC (α := ZS × List Wd) (fun p => ⟨[(2, .ia [.sc (.int .i64 m.ins), .sc (.int .i64 m.outs), .sl m.nl (m.rows.map rowC) .unk]), (10, .rf 0 0), (11, .tl 3 p.2.length p.2.isEmpty), (12, .fn 61 [.rf 0 0]), (43, .sl ln (l.map wdC) lc), (44, .sc (.int .i64 l.length)), (45, .sc (.int .i64 k))], [], zM (p.2.map wdC) p.1, 4⟩)
    (fun p => zpass1 m l (none, []) = zpass1 m (l.drop (k + 1)) p ∧ (∀ w ∈ p.2, w ∈ l) ∧ zLen p.1 ≤ k + 1 ∧ p.2.length ≤ k + 1 ∧ ∀ f e, p.1 = some (f, e) → e.2.length ≤ 256 ∧ WdOk e ∧ ∀ v ∈ f, WdOk v) ?_ ?_
  rotate_left
  · rintro ⟨s2, o2⟩ ⟨j1, j2, j3, j4, j5⟩
    simp only at j1 j2 j3 j4 j5 ⊢
    have hLn2 := norefs_wds o2
    rcases s2 with _ | ⟨f2, e2⟩
    · have hcs : zM (o2.map wdC) none = [(0, .cells [.tl 1 0 true]), (1, .arr 1 [] false), (3, .arr 1 (o2.map wdC) true)] := rfl
      refine EvC.rg (by (simp only [go_sem]) <;> rfl) (by exact inI64_of (by omega) (by omega)) ?_
      exact ⟨[(0, 0), (1, 1), (3, 3)], (k + 1, none, o2), rfl, (by rw [hcs]; (simp only [go_sem, hLn2, Int.natCast_add, Int.natCast_one]) <;> rfl), ⟨hkl, j1, j2, j3, j4, j5⟩, by simp only; omega⟩
    by_cases he2 : e2.2 = []
    · obtain ⟨eb, es⟩ := e2
      obtain rfl : es = [] := he2
      have hcs : zM (o2.map wdC) (some (f2, (eb, []))) = [(0, .cells [.tl 1 (f2.length + 1) false]), (1, .arr 1 (f2.map chC ++ [[.sl eb [] .zer]]) false), (3, .arr 1 (o2.map wdC) true)] := rfl
      have hN : (f2.map chC ++ [[AV.sl eb [] .zer]]).all AV.norefs = true := by rw [List.all_append, norefs_chC]; rfl
      refine EvC.rg (by (simp only [go_sem]) <;> rfl) (by exact inI64_of (by omega) (by omega)) ?_
      exact ⟨[(0, 0), (1, 1), (3, 3)], (k + 1, some (f2, (eb, [])), o2), rfl, (by rw [hcs]; (simp only [go_sem, hLn2, hN, Int.natCast_add, Int.natCast_one]) <;> rfl), ⟨hkl, j1, j2, j3, j4, j5⟩, by simp only; omega⟩
    · have hcs : zM (o2.map wdC) (some (f2, e2)) = [(0, .cells [.tl 1 (f2.length + 1) false]), (1, .arr 1 (f2.map chC ++ [[.tv 2 e2.2.length 0 e2.2.length .rest]]) false), (3, .arr 1 (o2.map wdC) true), (2, .arr 1 (e2.2.map intC) false)] := by
        rw [zM, chM, lastA, if_neg he2, if_neg he2]; rfl
      have hN : (f2.map chC ++ [[AV.tv 2 e2.2.length 0 e2.2.length .rest]]).all AV.norefs = false := by rw [List.all_append]; simp [AV.norefs, AV.noref]
      have hRn : ∀ v : AV, (f2.map chC ++ [[v]]).map (fun c => c.map (AV.ren [(0, 0), (1, 1), (3, 3), (2, 2)])) = f2.map chC ++ [[v.ren [(0, 0), (1, 1), (3, 3), (2, 2)]]] := fun v => by rw [List.map_append, chC_ren]; rfl
      refine EvC.rg (by (simp only [go_sem]) <;> rfl) (by exact inI64_of (by omega) (by omega)) ?_
      exact ⟨[(0, 0), (1, 1), (3, 3), (2, 2)], (k + 1, some (f2, e2), o2), rfl, (by rw [hcs]; (simp only [go_sem, hLn2, hN, hRn, Int.natCast_add, Int.natCast_one]) <;> rfl), ⟨hkl, j1, j2, j3, j4, j5⟩, by simp only; omega⟩
  refine EvC.block ?_  -- 3
  refine EvC.seq (EvC.rg (by (simp only [go_sem, he, wdC, hin]) <;> rfl) (by simp) ?_)
  apply EvC.seq
  apply EvC.tr
  · apply Tr.run
    · (simp only [go_sem, Mach.cells]) <;> rfl
    · simp
    apply Tr.cons
    · exact .call rfl rfl (by (simp only [go_sem]) <;> rfl) (by (simp only [go_sem]) <;> rfl) (by (simp only [go_sem]) <;> rfl) (by (simp only [go_sem]) <;> rfl) (by (simp only [go_sem]) <;> rfl) (q)
    apply Tr.done
    · (simp only [go_sem]) <;> rfl
    · simp
  refine EvC.seq (EvC.rg (by (simp only [go_sem]) <;> rfl) (by simp) ?_)
  by_cases h0 : afterR m 0 w.2 = 0
  · refine EvC.cond_true (by (simp only [go_sem, h0]) <;> rfl) ?_
    have hst : zpass1 m l (none, []) = zpass1 m (l.drop (k + 1)) (zput true s w, o) := by rw [hinv, hdr, zpass1, if_pos h0]
    rcases s with _ | ⟨f, e⟩
    · have hcs : zM (o.map wdC) none = [(0, .cells [.tl 1 0 true]), (1, .arr 1 [] false), (3, .arr 1 (o.map wdC) true)] := rfl
      apply EvC.region  -- R20
      apply XR.run
      · (simp only [go_sem]) <;> rfl
      · simp
      refine XR.gcTo ⟨[(2, .ia [.sc (.int .i64 m.ins), .sc (.int .i64 m.outs), .sl m.nl (m.rows.map rowC) .unk]), (10, .rf 0 0), (11, .tl 3 o.length o.isEmpty), (12, .fn 61 [.rf 0 0]), (43, .sl ln (l.map wdC) lc), (44, .sc (.int .i64 l.length)), (45, .sc (.int .i64 k)), (57, .fn 61 [.rf 0 0]), (58, .sl w.1 (w.2.map intC) .unk)], [], zM (o.map wdC) none, 4⟩ [2, 10, 11, 12, 43, 44, 45, 57, 58] [(0, 0), (1, 1), (3, 3)] rfl (by rw [hcs]; (simp only [go_sem, hLn]) <;> rfl) ?_
      apply XR.callI rfl rfl (by (simp only [go_sem]) <;> rfl) (by (simp only [go_sem]) <;> rfl) (by (simp only [go_sem]) <;> rfl)
      refine put_is hLn none w .unk true (zok_of hse) hwk (by omega) (fun f e h => by have := (hse f e h).1; omega) hwb ?_
      intro M nx hM
      refine XR.nil ?_
      refine ⟨rfl, (zput true none w, o), ⟨hst, hom, Nat.le_trans (zput_len true none w) (Nat.succ_le_succ hsl), Nat.le_succ_of_le hol, fun f9 e9 h9 => zput_keep (j := true) hse hwk hww f9 e9 h9⟩, fun c Q h => ?_⟩
      exact put_gc1 hM h
    by_cases he2 : e.2 = []
    · obtain ⟨eb, es⟩ := e
      obtain rfl : es = [] := he2
      have hcs : zM (o.map wdC) (some (f, (eb, []))) = [(0, .cells [.tl 1 (f.length + 1) false]), (1, .arr 1 (f.map chC ++ [[.sl eb [] .zer]]) false), (3, .arr 1 (o.map wdC) true)] := rfl
      have hN : (f.map chC ++ [[AV.sl eb [] .zer]]).all AV.norefs = true := by rw [List.all_append, norefs_chC]; rfl
      apply EvC.region  -- R20
      apply XR.run
      · (simp only [go_sem]) <;> rfl
      · simp
      refine XR.gcTo ⟨[(2, .ia [.sc (.int .i64 m.ins), .sc (.int .i64 m.outs), .sl m.nl (m.rows.map rowC) .unk]), (10, .rf 0 0), (11, .tl 3 o.length o.isEmpty), (12, .fn 61 [.rf 0 0]), (43, .sl ln (l.map wdC) lc), (44, .sc (.int .i64 l.length)), (45, .sc (.int .i64 k)), (57, .fn 61 [.rf 0 0]), (58, .sl w.1 (w.2.map intC) .unk)], [], zM (o.map wdC) (some (f, (eb, []))), 4⟩ [2, 10, 11, 12, 43, 44, 45, 57, 58] [(0, 0), (1, 1), (3, 3)] rfl (by rw [hcs]; (simp only [go_sem, hLn, hN]) <;> rfl) ?_
      apply XR.callI rfl rfl (by (simp only [go_sem]) <;> rfl) (by (simp only [go_sem]) <;> rfl) (by (simp only [go_sem]) <;> rfl)
      refine put_is hLn (some (f, (eb, []))) w .unk true (zok_of hse) hwk (by omega) (fun f e h => by have := (hse f e h).1; omega) hwb ?_
      intro M nx hM
      refine XR.nil ?_
      refine ⟨rfl, (zput true (some (f, (eb, []))) w, o), ⟨hst, hom, Nat.le_trans (zput_len true (some (f, (eb, []))) w) (Nat.succ_le_succ hsl), Nat.le_succ_of_le hol, fun f9 e9 h9 => zput_keep (j := true) hse hwk hww f9 e9 h9⟩, fun c Q h => ?_⟩
      exact put_gc1 hM h
    · have hcs : zM (o.map wdC) (some (f, e)) = [(0, .cells [.tl 1 (f.length + 1) false]), (1, .arr 1 (f.map chC ++ [[.tv 2 e.2.length 0 e.2.length .rest]]) false), (3, .arr 1 (o.map wdC) true), (2, .arr 1 (e.2.map intC) false)] := by
        rw [zM, chM, lastA, if_neg he2, if_neg he2]; rfl
      have hN : (f.map chC ++ [[AV.tv 2 e.2.length 0 e.2.length .rest]]).all AV.norefs = false := by rw [List.all_append]; simp [AV.norefs, AV.noref]
      have hRn : ∀ v : AV, (f.map chC ++ [[v]]).map (fun c => c.map (AV.ren [(0, 0), (1, 1), (3, 3), (2, 2)])) = f.map chC ++ [[v.ren [(0, 0), (1, 1), (3, 3), (2, 2)]]] := fun v => by rw [List.map_append, chC_ren]; rfl
      apply EvC.region  -- R20
      apply XR.run
      · (simp only [go_sem]) <;> rfl
      · simp
      refine XR.gcTo ⟨[(2, .ia [.sc (.int .i64 m.ins), .sc (.int .i64 m.outs), .sl m.nl (m.rows.map rowC) .unk]), (10, .rf 0 0), (11, .tl 3 o.length o.isEmpty), (12, .fn 61 [.rf 0 0]), (43, .sl ln (l.map wdC) lc), (44, .sc (.int .i64 l.length)), (45, .sc (.int .i64 k)), (57, .fn 61 [.rf 0 0]), (58, .sl w.1 (w.2.map intC) .unk)], [], zM (o.map wdC) (some (f, e)), 4⟩ [2, 10, 11, 12, 43, 44, 45, 57, 58] [(0, 0), (1, 1), (3, 3), (2, 2)] rfl (by rw [hcs]; (simp only [go_sem, hLn, hN, hRn]) <;> rfl) ?_
      apply XR.callI rfl rfl (by (simp only [go_sem]) <;> rfl) (by (simp only [go_sem]) <;> rfl) (by (simp only [go_sem]) <;> rfl)
      refine put_is hLn (some (f, e)) w .unk true (zok_of hse) hwk (by omega) (fun f e h => by have := (hse f e h).1; omega) hwb ?_
      intro M nx hM
      refine XR.nil ?_
      refine ⟨rfl, (zput true (some (f, e)) w, o), ⟨hst, hom, Nat.le_trans (zput_len true (some (f, e)) w) (Nat.succ_le_succ hsl), Nat.le_succ_of_le hol, fun f9 e9 h9 => zput_keep (j := true) hse hwk hww f9 e9 h9⟩, fun c Q h => ?_⟩
      exact put_gc1 hM h
  · refine EvC.cond_false (by (simp only [go_sem, h0]) <;> rfl) ?_
    have hst : zpass1 m l (none, []) = zpass1 m (l.drop (k + 1)) (s, o ++ [w]) := by rw [hinv, hdr, zpass1, if_neg h0]
    have hom2 : ∀ x ∈ o ++ [w], x ∈ l := fun x hx => by
      rcases List.mem_append.1 hx with h | h
      · exact hom x h
      · rw [List.mem_singleton] at h; rw [h]; exact hwm
    have hsn : o.map wdC ++ [[.sl w.1 (w.2.map intC) .unk]] = (o ++ [w]).map wdC := by simp [wdC]
    have hsl2 : (o ++ [w]).length = o.length + 1 := by simp
    have hse2 : (o ++ [w]).isEmpty = false := by simp
    have hLn2 := norefs_wds (o ++ [w])
    have hr2 : room (o.length + 1) 24 = true := by simp only [room_eq, decide_eq_true_eq]; omega
    generalize ho2 : o ++ [w] = o2 at hst hom2 hsn hsl2 hse2 hLn2
    rcases s with _ | ⟨f, e⟩
    · have hcs : ∀ L, zM L none = [(0, .cells [.tl 1 0 true]), (1, .arr 1 [] false), (3, .arr 1 L true)] := fun _ => rfl
      have hcs2 := hcs
      rw [hcs]
      refine EvC.rg (by (simp only [go_sem, hLn2, hsn, List.length_map]) <;> rfl) (by exact hr2) ?_
      refine ⟨rfl, (none, o2), ⟨hst, hom2, Nat.le_succ_of_le hsl, (by show o2.length ≤ k + 1; omega), hse⟩, fun c Q h => ?_⟩
      rw [hcs2] at h
      refine EvC.gcE [2, 10, 11, 12, 43, 44, 45] [(0, 0), (1, 1), (3, 3)] 4 rfl (by (simp only [go_sem, hLn2, hse2]) <;> rfl) h
    by_cases he2 : e.2 = []
    · obtain ⟨eb, es⟩ := e
      obtain rfl : es = [] := he2
      have hcs : ∀ L, zM L (some (f, (eb, []))) = [(0, .cells [.tl 1 (f.length + 1) false]), (1, .arr 1 (f.map chC ++ [[.sl eb [] .zer]]) false), (3, .arr 1 L true)] := fun _ => rfl
      have hcs2 := hcs
      have hN : (f.map chC ++ [[AV.sl eb [] .zer]]).all AV.norefs = true := by rw [List.all_append, norefs_chC]; rfl
      rw [hcs]
      refine EvC.rg (by (simp only [go_sem, hLn2, hsn, List.length_map, hN]) <;> rfl) (by exact hr2) ?_
      refine ⟨rfl, (some (f, (eb, [])), o2), ⟨hst, hom2, Nat.le_succ_of_le hsl, (by show o2.length ≤ k + 1; omega), hse⟩, fun c Q h => ?_⟩
      rw [hcs2] at h
      refine EvC.gcE [2, 10, 11, 12, 43, 44, 45] [(0, 0), (1, 1), (3, 3)] 4 rfl (by (simp only [go_sem, hLn2, hse2, hN]) <;> rfl) h
    · have hcs : ∀ L, zM L (some (f, e)) = [(0, .cells [.tl 1 (f.length + 1) false]), (1, .arr 1 (f.map chC ++ [[.tv 2 e.2.length 0 e.2.length .rest]]) false), (3, .arr 1 L true), (2, .arr 1 (e.2.map intC) false)] := fun L => by
        rw [zM, chM, lastA, if_neg he2, if_neg he2]; rfl
      have hcs2 := hcs
      have hN : (f.map chC ++ [[AV.tv 2 e.2.length 0 e.2.length .rest]]).all AV.norefs = false := by rw [List.all_append]; simp [AV.norefs, AV.noref]
      have hRn : ∀ v : AV, (f.map chC ++ [[v]]).map (fun c => c.map (AV.ren [(0, 0), (1, 1), (3, 3), (2, 2)])) = f.map chC ++ [[v.ren [(0, 0), (1, 1), (3, 3), (2, 2)]]] := fun v => by rw [List.map_append, chC_ren]; rfl
      rw [hcs]
      refine EvC.rg (by (simp only [go_sem, hLn2, hsn, List.length_map, hN, hRn]) <;> rfl) (by exact hr2) ?_
      refine ⟨rfl, (some (f, e), o2), ⟨hst, hom2, Nat.le_succ_of_le hsl, (by show o2.length ≤ k + 1; omega), hse⟩, fun c Q h => ?_⟩
      rw [hcs2] at h
      refine EvC.gcE [2, 10, 11, 12, 43, 44, 45] [(0, 0), (1, 1), (3, 3), (2, 2)] 4 rfl (by (simp only [go_sem, hLn2, hse2, hN, hRn]) <;> rfl) h
/-! Words that are nil exactly where they are empty. -/
def wW (w : List Int) : Wd := (w.isEmpty, w)
theorem wdC_wW (w : List Int) : wdC (wW w) = wC w := rfl
theorem wW_ok (w : List Int) : WdOk (wW w) := fun h => by simpa [wW] using h
def zOf (s : CS) : ZS := s.map fun p => (p.1.map wW, wW p.2)
theorem zput_wW (j : Bool) (s : CS) (w : List Int) : zput j (zOf s) (wW w) = zOf (putO j s w) := by
  rcases s with _ | ⟨f, e⟩
  · rfl
  · by_cases h : (j && decide (e.length + w.length ≤ 256)) = true
    · have h1 : zput j (zOf (some (f, e))) (wW w) = some (f.map wW, (e.isEmpty && w.isEmpty, e ++ w)) := if_pos h
      have h2 : putO j (some (f, e)) w = some (f, e ++ w) := if_pos h
      rw [h1, h2]
      have : (e ++ w).isEmpty = (e.isEmpty && w.isEmpty) := by cases e <;> rfl
      simp only [zOf, Option.map_some, wW, this]
    · have h1 : zput j (zOf (some (f, e))) (wW w) = some (f.map wW ++ [wW e], wW w) := if_neg h
      have h2 : putO j (some (f, e)) w = some (f ++ [e], w) := if_neg h
      rw [h1, h2]; simp [zOf]
theorem zpass1_wW (m : Mach) : ∀ (l : List (List Int)) (s : CS) (o : List (List Int)), zpass1 m (l.map wW) (zOf s, o.map wW) = (zOf (pass1 m l (s, o)).1, (pass1 m l (s, o)).2.map wW)
  | [], _, _ => rfl
  | w :: r, s, o => by
    rw [List.map_cons, zpass1, pass1]
    by_cases h : afterR m 0 w = 0
    · rw [if_pos h, if_pos (show afterR m 0 (wW w).2 = 0 from h), zput_wW]; exact zpass1_wW m r _ o
    · rw [if_neg h, if_neg (show ¬ afterR m 0 (wW w).2 = 0 from h)]
      have := zpass1_wW m r s (o ++ [w])
      rw [List.map_append] at this
      exact this
theorem zpass2_wW : ∀ (l : List (List Int)) (j : Bool) (s : CS), zpass2 j (l.map wW) (zOf s) = zOf (pass2 j l s)
  | [], _, _ => rfl
  | w :: r, j, s => by rw [List.map_cons, zpass2, pass2, zput_wW]; exact zpass2_wW r false _
theorem zList_wW (s : CS) : zList (zOf s) = (csList s).map wW := by
  rcases s with _ | ⟨f, e⟩
  · rfl
  · simp [zList, csList, zOf]
theorem chainsW_wW (m : Mach) (l : List (List Int)) : chainsW m (l.map wW) = (chainsL m l).map wW := by
  have h := zpass1_wW m l none []
  rw [show zOf none = none from rfl, List.map_nil] at h
  rw [chainsW, chainsL, h]
  simp only
  rw [zpass2_wW, zList_wW]
theorem chains36_is {m : Mach} (hv : Valid m) (hc0 : checkM m = 0) (ln : Bool) (l : List (List Int)) (lc : Cp) (hll : l.length < 1000000) (hwl : ∀ w ∈ l, w.length < 1000000) :
    PureIs prog 36 [.ag m.cells, .sl ln (l.map wC) lc] (chainsR m l) := by
  have q := chains36_gen hv hc0 ln (l.map wW) lc (by rw [List.length_map]; exact hll) (fun w hw => by
    obtain ⟨v, hv, rfl⟩ := List.mem_map.1 hw; exact hwl v hv) (fun w hw => by
    obtain ⟨v, _, rfl⟩ := List.mem_map.1 hw; exact wW_ok v)
  have e1 : (l.map wW).map wdC = l.map wC := by rw [List.map_map]; rfl
  have e2 : chainsWR m (l.map wW) = chainsR m l := by
    rw [chainsWR, chainsR, List.length_map, chainsW_wW, List.map_map]
    have e3 : ((chainsL m l).map wW).isEmpty = (chainsL m l).isEmpty := by cases chainsL m l <;> rfl
    rw [e3]; rfl
  rw [e1, e2] at q
  exact q
end Go.Avl
namespace Go.Avl
open Go Go.Proofs.Tryd
set_option maxRecDepth 10000
set_option linter.unusedSimpArgs false

/-- The machine of the examples. -/
def togM : Mach := ⟨2, 2, false, [(false, [(1, 0), (0, 0)]), (false, [(0, 1), (1, 0)])]⟩
theorem toggle_is : PureIs prog 41 [] (.ag togM.cells) := by
  have key : PureIs prog 41 [] (.ag [.sc (.int .i64 2), .sc (.int .i64 2), .sl false [[.sl false ([(1, 0), (0, 0)].map edgeC) .full], [.sl false ([(0, 1), (1, 0)].map edgeC) .full]] .full]) := by
    refine PureIs.of (nv := 1) (hid := []) func41 rfl (by kernel_rfl) (by simp [ntmps41]) fun _ => ?_
    rw [ntmps41, results41]
    refine EvC.seq (EvC.rg (by (simp only [go_sem]) <;> rfl) (by simp) ?_)
    refine EvC.seq (EvC.rg (by (simp only [go_sem]) <;> rfl) (by simp) ?_)
    refine EvC.ret ⟨.inl rfl, _, (by (simp only [go_sem]) <;> rfl), ?_, rfl⟩
    simp only [go_sem]
    rfl
  have h := key.weakR
  exact h
def cmpI : List Int → List Int → Int
  | x :: a, y :: b => if x < y then -1 else if y < x then 1 else cmpI a b
  | _, _ => 0
def cmpL (a b : List Int) : Int := if a.length = b.length then cmpI a b else if a.length < b.length then -1 else 1
theorem cmpI_zero : ∀ {a b : List Int}, a.length = b.length → (cmpI a b = 0 ↔ a = b)
  | [], [], _ => by simp [cmpI]
  | x :: a, y :: b, h => by
    unfold cmpI
    split
    · simp; omega
    split
    · simp; omega
    · rw [cmpI_zero (by simpa using h)]
      simp; omega
theorem cmpL_zero {a b : List Int} : cmpL a b = 0 ↔ a = b := by
  unfold cmpL
  split
  · rename_i h; exact cmpI_zero h
  · rename_i h
    have : a ≠ b := fun e => h (by rw [e])
    split <;> simp [this]
theorem compare65_is (na nb : Bool) (a b : List Int) (ca cb : Cp) (hl : a.length < 1000000) :
    PureIs prog 65 [.sl na (a.map intC) ca, .sl nb (b.map intC) cb] (.sc (.int .i64 (cmpL a b))) := by
  refine PureIs.of (nv := 2) (hid := [4, 5, 10, 15, 19, 30, 39]) func65 rfl (by kernel_rfl) (by simp [ntmps65]) fun _ => ?_
  rw [ntmps65, results65]
  refine EvC.seq (EvC.rg (by (simp only [go_sem]) <;> rfl) (by simp) ?_)
  refine EvC.seq ?_
  refine EvC.seq (EvC.rg (by (simp only [go_sem, List.length_map]) <;> rfl) (by simp) ?_)
  unfold cmpL
  by_cases hlen : a.length = b.length
  rotate_left
  · have hd : decide ((a.length : Int) = (b.length : Int)) = false := decide_eq_false (by omega)
    rw [if_neg hlen]
    refine EvC.cond_true (by (simp only [go_sem, hd]) <;> rfl) ?_
    refine EvC.seq ?_
    refine EvC.seq (EvC.rg (by (simp only [go_sem, List.length_map]) <;> rfl) (by simp) ?_)
    by_cases hlt : a.length < b.length
    · have h2 : decide ((a.length : Int) < (b.length : Int)) = true := decide_eq_true (by omega)
      refine EvC.cond_true (by (simp only [go_sem, h2]) <;> rfl) ?_
      refine EvC.seq (EvC.rg (by (simp only [go_sem]) <;> rfl) (by simp) ?_)
      rw [if_pos hlt]
      refine EvC.ret ⟨.inl rfl, _, (by (simp only [go_sem]) <;> rfl), ?_, rfl⟩
      simp only [go_sem]
    · have h2 : decide ((a.length : Int) < (b.length : Int)) = false := decide_eq_false (by omega)
      refine EvC.cond_false (by (simp only [go_sem, h2]) <;> rfl) ?_
      refine EvC.skip ?_
      refine EvC.seq (EvC.rg (by (simp only [go_sem]) <;> rfl) (by simp) ?_)
      rw [if_neg hlt]
      refine EvC.ret ⟨.inl rfl, _, (by (simp only [go_sem]) <;> rfl), ?_, rfl⟩
      simp only [go_sem]
  have hd : decide ((a.length : Int) = (b.length : Int)) = true := decide_eq_true (by omega)
  rw [if_pos hlen]
  refine EvC.cond_false (by (simp only [go_sem, hd]) <;> rfl) ?_
  refine EvC.skip ?_
  refine EvC.seq ?_
  refine EvC.seq (EvC.rg (by (simp only [go_sem]) <;> rfl) (by simp) ?_)
  refine EvC.block ?_  -- 0
  refine EvC.loopS (σ := Nat) (fun i => ⟨[(0, .sl na (a.map intC) ca), (1, .sl nb (b.map intC) cb), (5, .sc (.int .i64 i))], [], [], 0⟩) (fun i => a.length - i) (fun i => i ≤ a.length ∧ cmpI a b = cmpI (a.drop i) (b.drop i)) [0, 1, 5] 0 ?_ ?_
  · exact ⟨[], 0, rfl, (by (simp only [go_sem, Int.natCast_zero]) <;> rfl), Nat.zero_le _, rfl⟩
  rintro i ⟨hi, hinv⟩
  refine EvC.seq ?_
  refine EvC.seq (EvC.rg (by (simp only [go_sem, List.length_map]) <;> rfl) (by simp) ?_)
  refine EvC.cond (by (simp only [go_sem]) <;> rfl) (fun hc => ?_) (fun hc => ?_)
  rotate_left
  · -- else
    refine EvC.exit ?_  -- 0
    obtain rfl : a.length = i := by have : ¬ i < a.length := by simpa using hc
                                    omega
    have h0 : cmpI a b = 0 := by rw [hinv, List.drop_length, hlen, List.drop_length]; rfl
    rw [h0]
    refine EvC.seq (EvC.rg (by (simp only [go_sem]) <;> rfl) (by simp) ?_)
    refine EvC.ret ⟨.inl rfl, _, (by (simp only [go_sem]) <;> rfl), ?_, rfl⟩
    simp only [go_sem]
  have hil : i < a.length := by simpa using hc
  clear hc
  have he : a[i]? = some (a[i]'hil) := List.getElem?_eq_getElem hil
  have hf : b[i]? = some (b[i]'(by omega)) := List.getElem?_eq_getElem (by omega)
  generalize a[i]'hil = x at he
  generalize b[i]'(by omega) = y at hf
  rw [list_step he, list_step hf, cmpI] at hinv
  have hin : (i : Int).toNat = i := Int.toNat_natCast i
  refine EvC.skip ?_
  refine EvC.seq ?_
  refine EvC.block ?_  -- 1
  refine EvC.seq ?_
  apply EvC.seq
  apply EvC.drd mixed
  · (simp only [go_sem, he, hf, intC, hin, List.length_map]) <;> rfl
  · simp; try omega
  · kernel_rfl
  by_cases hxy : x < y
  · have d1 : decide (x < y) = true := decide_eq_true hxy
    refine EvC.cond_true (by (simp only [go_sem, d1]) <;> rfl) ?_
    refine EvC.seq (EvC.rg (by (simp only [go_sem]) <;> rfl) (by simp) ?_)
    rw [hinv, if_pos hxy]
    refine EvC.ret ⟨.inl rfl, _, (by (simp only [go_sem]) <;> rfl), ?_, rfl⟩
    simp only [go_sem]
  have d1 : decide (x < y) = false := decide_eq_false hxy
  refine EvC.cond_false (by (simp only [go_sem, d1]) <;> rfl) ?_
  refine EvC.skip ?_
  apply EvC.seq
  apply EvC.drd mixed
  · (simp only [go_sem, he, hf, intC, hin, List.length_map]) <;> rfl
  · simp; try omega
  · kernel_rfl
  by_cases hyx : y < x
  · have d2 : decide (y < x) = true := decide_eq_true hyx
    refine EvC.cond_true (by (simp only [go_sem, d2]) <;> rfl) ?_
    refine EvC.seq (EvC.rg (by (simp only [go_sem]) <;> rfl) (by simp) ?_)
    rw [hinv, if_neg hxy, if_pos hyx]
    refine EvC.ret ⟨.inl rfl, _, (by (simp only [go_sem]) <;> rfl), ?_, rfl⟩
    simp only [go_sem]
  have d2 : decide (y < x) = false := decide_eq_false hyx
  refine EvC.cond_false (by (simp only [go_sem, d2]) <;> rfl) ?_
  refine EvC.skip ?_
  refine EvC.rg (by (simp only [go_sem]) <;> rfl) (by exact inI64_of (by omega) (by omega)) ?_
  exact ⟨[], i + 1, rfl, (by (simp only [go_sem, Int.natCast_add, Int.natCast_one]) <;> rfl), ⟨hil, by rw [hinv, if_neg hxy, if_neg hyx]⟩, by omega⟩
end Go.Avl
namespace Go.Avl
open Go Go.Proofs.Tryd
set_option maxRecDepth 10000
set_option linter.unusedSimpArgs false

/-- Rows of any room. -/
abbrev RW := Bool × List Int × Cp
def rwC (r : RW) : List AV := [.sl r.1 (r.2.1.map intC) r.2.2]
@[go_sem] theorem norefs_rw (l : List RW) : (l.map rwC).all AV.norefs = true := by simp [List.all_eq_true, rwC, AV.norefs, AV.noref]
def sameW : List RW → List RW → Bool
  | [], [] => true
  | x :: a, y :: b => decide (x.2.1 = y.2.1) && sameW a b
  | _, _ => false
theorem sameW_eq : ∀ {a b : List RW}, sameW a b = decide (a.map (·.2.1) = b.map (·.2.1))
  | [], [] => by simp [sameW]
  | x :: a, [] => by simp [sameW]
  | [], y :: b => by simp [sameW]
  | x :: a, y :: b => by simp [sameW, sameW_eq (a := a) (b := b)]
theorem sameW_len {a b : List RW} (h : sameW a b = true) : a.length = b.length := by
  rw [sameW_eq, decide_eq_true_eq] at h
  simpa using congrArg List.length h
theorem sameW_refl (a : List RW) : sameW a a = true := by rw [sameW_eq]; simp
theorem same37_is (na nb : Bool) (a b : List RW) (ca cb : Cp) (hl : a.length < 1000000) (hk : ∀ x ∈ a, x.2.1.length < 1000000) :
    PureIs prog 37 [.sl na (a.map rwC) ca, .sl nb (b.map rwC) cb] (.sc (.bool (sameW a b))) := by
  refine PureIs.of (nv := 2) (hid := [4, 5, 10, 14, 26]) func37 rfl (by kernel_rfl) (by simp [ntmps37]) fun _ => ?_
  rw [ntmps37, results37]
  refine EvC.seq (EvC.rg (by (simp only [go_sem]) <;> rfl) (by simp) ?_)
  refine EvC.seq ?_
  refine EvC.seq (EvC.rg (by (simp only [go_sem, List.length_map]) <;> rfl) (by simp) ?_)
  by_cases hlen : a.length = b.length
  rotate_left
  · have hd : decide ((a.length : Int) = (b.length : Int)) = false := decide_eq_false (by omega)
    have hab : sameW a b = false := by
      cases h : sameW a b with
      | false => rfl
      | true => exact absurd (sameW_len h) hlen
    rw [hab]
    refine EvC.cond_true (by (simp only [go_sem, hd]) <;> rfl) ?_
    refine EvC.seq (EvC.rg (by (simp only [go_sem]) <;> rfl) (by simp) ?_)
    refine EvC.ret ⟨.inl rfl, _, (by (simp only [go_sem]) <;> rfl), ?_, rfl⟩
    simp only [go_sem]
  have hd : decide ((a.length : Int) = (b.length : Int)) = true := decide_eq_true (by omega)
  refine EvC.cond_false (by (simp only [go_sem, hd]) <;> rfl) ?_
  refine EvC.skip ?_
  refine EvC.seq ?_
  refine EvC.seq (EvC.rg (by (simp only [go_sem]) <;> rfl) (by simp) ?_)
  refine EvC.block ?_  -- 0
  refine EvC.loopS (σ := Nat) (fun i => ⟨[(0, .sl na (a.map rwC) ca), (1, .sl nb (b.map rwC) cb), (5, .sc (.int .i64 i))], [], [], 0⟩) (fun i => a.length - i) (fun i => i ≤ a.length ∧ sameW a b = sameW (a.drop i) (b.drop i)) [0, 1, 5] 0 ?_ ?_
  · exact ⟨[], 0, rfl, (by (simp only [go_sem, Int.natCast_zero]) <;> rfl), Nat.zero_le _, rfl⟩
  rintro i ⟨hi, hinv⟩
  refine EvC.seq ?_
  refine EvC.seq (EvC.rg (by (simp only [go_sem, List.length_map]) <;> rfl) (by simp) ?_)
  refine EvC.cond (by (simp only [go_sem]) <;> rfl) (fun hc => ?_) (fun hc => ?_)
  rotate_left
  · -- else
    refine EvC.exit ?_  -- 0
    obtain rfl : a.length = i := by have : ¬ i < a.length := by simpa using hc
                                    omega
    have h0 : sameW a b = true := by rw [hinv, List.drop_length, hlen, List.drop_length]; rfl
    rw [h0]
    refine EvC.seq (EvC.rg (by (simp only [go_sem]) <;> rfl) (by simp) ?_)
    refine EvC.ret ⟨.inl rfl, _, (by (simp only [go_sem]) <;> rfl), ?_, rfl⟩
    simp only [go_sem]
  have hil : i < a.length := by simpa using hc
  clear hc
  have he : a[i]? = some (a[i]'hil) := List.getElem?_eq_getElem hil
  have hf : b[i]? = some (b[i]'(by omega)) := List.getElem?_eq_getElem (by omega)
  have hx := hk _ (List.getElem_mem hil)
  generalize a[i]'hil = x at he hx
  generalize b[i]'(by omega) = y at hf
  rw [list_step he, list_step hf, sameW] at hinv
  have hin : (i : Int).toNat = i := Int.toNat_natCast i
  have q := compare65_is x.1 y.1 x.2.1 y.2.1 x.2.2 y.2.2 hx
  have hz := cmpL_zero (a := x.2.1) (b := y.2.1)
  generalize cmpL x.2.1 y.2.1 = z at q hz
  refine EvC.skip ?_
  refine EvC.seq ?_
  refine EvC.block ?_  -- 1
  apply EvC.seq
  apply EvC.drw mixed
  · apply Tr.run
    · (simp only [go_sem, he, hf, rwC, hin, List.length_map]) <;> rfl
    · simp; try omega
    apply Tr.cons
    · exact .call rfl rfl (by (simp only [go_sem]) <;> rfl) (by (simp only [go_sem]) <;> rfl) (by (simp only [go_sem]) <;> rfl) (by (simp only [go_sem]) <;> rfl) (by (simp only [go_sem]) <;> rfl) (q)
    apply Tr.done
    · (simp only [go_sem]) <;> rfl
    · simp
  · kernel_rfl
  by_cases hxy : x.2.1 = y.2.1
  · have d1 : z = 0 := hz.2 hxy
    refine EvC.cond_false (by (simp only [go_sem, d1]) <;> rfl) ?_
    refine EvC.skip ?_
    refine EvC.rg (by (simp only [go_sem]) <;> rfl) (by exact inI64_of (by omega) (by omega)) ?_
    exact ⟨[], i + 1, rfl, (by (simp only [go_sem, Int.natCast_add, Int.natCast_one]) <;> rfl), ⟨hil, by rw [hinv, decide_eq_true hxy, Bool.true_and]⟩, by omega⟩
  · have d1 : decide (z = 0) = false := decide_eq_false fun h => hxy (hz.1 h)
    refine EvC.cond_true (by (simp only [go_sem, d1]) <;> rfl) ?_
    refine EvC.seq (EvC.rg (by (simp only [go_sem]) <;> rfl) (by simp) ?_)
    rw [hinv, decide_eq_false hxy, Bool.false_and]
    refine EvC.ret ⟨.inl rfl, _, (by (simp only [go_sem]) <;> rfl), ?_, rfl⟩
    simp only [go_sem]
end Go.Avl
namespace Go.Avl
open Go Go.Proofs.Tryd
set_option maxRecDepth 100000
set_option linter.unusedSimpArgs false

/-! ### The examples of the chapter: what they answer -/
def exL : List Item := [⟨2, false, [0, 1]⟩, ⟨1, false, [1]⟩, ⟨4, false, [0, 1, 2, 3]⟩, ⟨1, true, []⟩]
theorem ex_check : checkI exL = 0 := by kernel_rfl
theorem ex_order : orderA exL = [0, 2, 1, 3] := by kernel_rfl
theorem ex_choice : choiceB exL [0, 2, 1, 3] = true := by kernel_rfl
theorem ex_curve : curveTo exL [0, 2, 1, 3] 4 = [(2, 2), (6, 4), (7, 4), (8, 4)] := by kernel_rfl
theorem ex_choice1 : choiceB exL [0, 2] = true := by kernel_rfl
theorem ex_choice2 : choiceB exL [2] = true := by kernel_rfl
theorem ex_late1 : lateOf exL [0, 2] = 16 := by kernel_rfl
theorem ex_late2 : lateOf exL [2] = 16 := by kernel_rfl
theorem ex_best0 : bestL exL 0 = [] := by kernel_rfl
theorem ex_best1 : bestL exL 1 = [1] := by kernel_rfl
theorem ex_best4 : bestL exL 4 = [2] := by kernel_rfl
theorem ex_best6 : bestL exL 6 = [2] := by kernel_rfl
theorem ex_orderR : orderR exL = .tu [.sl false ([0, 2, 1, 3].map intC) .full, .sc (.int .i64 0)] := by rw [orderR, if_pos ex_check, ex_order]
theorem ex_late1R : lateR exL [0, 2] = .tu [.sc (.int .i64 16), .sc (.int .i64 0)] := by rw [lateR, if_pos ex_check, if_pos ex_choice1, ex_late1]
theorem ex_late2R : lateR exL [2] = .tu [.sc (.int .i64 16), .sc (.int .i64 0)] := by rw [lateR, if_pos ex_check, if_pos ex_choice2, ex_late2]
theorem ex_curveO : curveOf exL [0, 2, 1, 3] = [(2, 2), (6, 4), (7, 4), (8, 4)] := by kernel_rfl
theorem ex_curveR : curveR exL [0, 2, 1, 3] = .tu [.sl false ([(2, 2), (6, 4), (7, 4), (8, 4)].map pairC) .full, .sc (.int .i64 0)] := by rw [curveR, if_pos ex_check, if_pos ex_choice, ex_curveO]
theorem tog_check : checkM togM = 0 := by kernel_rfl
theorem tog_valid : Valid togM := Valid.of tog_check
theorem tog_noNil : NoNil togM := fun r hr h => by
  simp only [togM, List.mem_cons, List.not_mem_nil, or_false] at hr
  rcases hr with rfl | rfl <;> cases h
def exF : FA := ⟨0, 0, 0, 0, 0, 1⟩
theorem ex_errFs : errFs togM [exF] = 0 := by kernel_rfl
theorem ex_items : [((false, [0]) : Wd), (false, [1])].map (itemF togM [exF] 5 1) = [⟨6, false, [0]⟩, ⟨6, true, []⟩] := by kernel_rfl
theorem ex_chains : chainsL togM [[0], [1], [0, 0], [1, 0, 1]] = [[1, 0, 0, 0], [1, 0, 1]] := by kernel_rfl
theorem ex_lens : ∀ x ∈ exL, x.kills.length < 1000000 := by simp [exL]
end Go.Avl
namespace Go.Avl
open Go Go.Proofs.Tryd
set_option maxRecDepth 10000
set_option linter.unusedSimpArgs false

def i0 (n : Int) : AV := .sc (.int .i64 n)
/-- The list of the examples, as it is built. -/
abbrev exA : AV := .sl false [[.sc (.int .i64 2), .sl false [[.sc (.int .i64 0)], [.sc (.int .i64 1)]] .full], [.sc (.int .i64 1), .sl false [[.sc (.int .i64 1)]] .full], [.sc (.int .i64 4), .sl false [[.sc (.int .i64 0)], [.sc (.int .i64 1)], [.sc (.int .i64 2)], [.sc (.int .i64 3)]] .full], [.sc (.int .i64 1), .sl true [] .zer]] .full
theorem ex_order_is : PureIs prog 15 [exA] (.tu [.sl false ([0, 2, 1, 3].map intC) .full, .sc (.int .i64 0)]) := by
  have q := order_is false exL .unk ex_lens (by simp [exL])
  rw [ex_orderR] at q
  exact .weak q
theorem ex_curve_is : PureIs prog 16 [exA, .sl false ([0, 2, 1, 3].map intC) .full] (.tu [.sl false ([(2, 2), (6, 4), (7, 4), (8, 4)].map pairC) .full, .sc (.int .i64 0)]) := by
  have q := curve_is false exL .unk false [0, 2, 1, 3] .unk ex_lens (by simp)
  rw [ex_curveR] at q
  exact .weak q
theorem ex_late1_is : PureIs prog 17 [exA, .sl false ([0, 2].map intC) .full] (.tu [.sc (.int .i64 16), .sc (.int .i64 0)]) := by
  have q := late_is false exL .unk false [0, 2] .unk ex_lens (by simp)
  rw [ex_late1R] at q
  exact .weak q
theorem ex_late2_is : PureIs prog 17 [exA, .sl false ([2].map intC) .full] (.tu [.sc (.int .i64 16), .sc (.int .i64 0)]) := by
  have q := late_is false exL .unk false [2] .unk ex_lens (by simp)
  rw [ex_late2R] at q
  exact .weak q
theorem ex_same_is (na nb : Bool) (a : List Int) (hl : a.length < 1000000) : PureIs prog 25 [.sl na (a.map intC) .full, .sl nb (a.map intC) .full] (.sc (.bool true)) := by
  have q := same_is na a .full nb a .full hl
  rwa [decide_eq_true rfl] at q
theorem ex_curves_is (a : List (Int × Int)) (hl : a.length < 1000000) : PureIs prog 28 [.sl false (a.map pairC) .full, .sl false (a.map pairC) .full] (.sc (.bool true)) := by
  have q := curves_is false false a a .full hl
  rwa [decide_eq_true rfl] at q
theorem ex_best_is {i : Nat} (hi : i < 4) : ∃ (b : Int) (w : List Int) (nl : Bool) (c : Cp), ([[.sc (.int .i64 0)], [.sc (.int .i64 1)], [.sc (.int .i64 4)], [.sc (.int .i64 6)]] : List (List AV))[i]? = some [.sc (.int .i64 b)] ∧
    ([[.sl true [] .zer], [.sl false [[.sc (.int .i64 1)]] .full], [.sl false [[.sc (.int .i64 2)]] .full], [.sl false [[.sc (.int .i64 2)]] .full]] : List (List AV))[i]? = some [.sl nl (w.map intC) c] ∧
    PureIs prog 18 [exA, .sc (.int .i64 b)] (.tu [.sl w.isEmpty (w.map intC) .full, .sc (.int .i64 0)]) ∧ w.length < 1000000 := by
  have key : ∀ b : Int, b ≤ 9223372036854775807 → PureIs prog 18 [exA, .sc (.int .i64 b)] (.tu [.sl (bestL exL b).isEmpty ((bestL exL b).map intC) .full, .sc (.int .i64 0)]) := fun b hb => by
    have q := best_is false exL .unk b ex_lens (by simp [exL]) hb
    rw [bestR, if_pos ex_check, if_neg (by simp [exL])] at q
    exact .weak q
  obtain rfl | rfl | rfl | rfl : i = 0 ∨ i = 1 ∨ i = 2 ∨ i = 3 := by omega
  · have q := key 0 (by decide); rw [ex_best0] at q
    exact ⟨0, [], true, .zer, rfl, rfl, q, by decide⟩
  · have q := key 1 (by decide); rw [ex_best1] at q
    exact ⟨1, [1], false, .full, rfl, rfl, q, by decide⟩
  · have q := key 4 (by decide); rw [ex_best4] at q
    exact ⟨4, [2], false, .full, rfl, rfl, q, by decide⟩
  · have q := key 6 (by decide); rw [ex_best6] at q
    exact ⟨6, [2], false, .full, rfl, rfl, q, by decide⟩
theorem ex_same2_is (na nb : Bool) (ca cb : Cp) (a : List Int) (hl : a.length < 1000000) : PureIs prog 25 [.sl na (a.map intC) ca, .sl nb (a.map intC) cb] (.sc (.bool true)) := by
  have q := same_is na a ca nb a cb hl
  rwa [decide_eq_true rfl] at q
theorem ex_items_is : PureIs prog 21 [.ag togM.cells, .sl false [[.sc (.int .i64 0), .sc (.int .i64 0), .sc (.int .i64 0), .sc (.int .i64 0), .sc (.int .i64 0), .sc (.int .i64 1)]] .full, .sl false [[.sl false [[.sc (.int .i64 0)]] .full], [.sl false [[.sc (.int .i64 1)]] .full]] .full, .sc (.int .i64 5), .sc (.int .i64 1)]
    (.tu [.sl false [[.sc (.int .i64 6), .sl false [[.sc (.int .i64 0)]] .full], [.sc (.int .i64 6), .sl true [] .full]] .full, .sc (.int .i64 0)]) := by
  have q := items21_is tog_valid tog_check tog_noNil false [exF] .unk (by decide) false [(false, [0]), (false, [1])] .unk (by decide) (by simp) 5 1
  have hR : itemsR togM [exF] [(false, [0]), (false, [1])] 5 1 = .tu [.sl false (([⟨6, false, [0]⟩, ⟨6, true, []⟩] : List Item).map itemU) .full, .sc (.int .i64 0)] := by
    have h1 : ¬ (256 < [exF].length ∨ 256 < [((false, [0]) : Wd), (false, [1])].length) := by simp
    have h2 : ¬ ¬ errFs togM [exF] = 0 := by simp [ex_errFs]
    have h3 : wordsErr togM.ins [((false, [0]) : Wd), (false, [1])] = 0 := by kernel_rfl
    have h4 : pricesBad 5 1 = false := by kernel_rfl
    have h5 : costZ 5 1 [((false, [0]) : Wd), (false, [1])] = false := by kernel_rfl
    rw [itemsR, if_neg h1, if_neg h2, if_neg (by simp [h3]), if_neg (by simp [h4]), if_neg (by simp [h5]), ex_items]
  rw [hR] at q
  exact .weak q
theorem ex_sameI_is : PureIs prog 22 [.sl false [[.sc (.int .i64 6), .sl false [[.sc (.int .i64 0)]] .full], [.sc (.int .i64 6), .sl true [] .full]] .full, .sl false [[.sc (.int .i64 6), .sl false [[.sc (.int .i64 0)]] .full], [.sc (.int .i64 6), .sl true [] .zer]] .full] (.sc (.bool true)) := by
  have q := sameI_is false false [⟨6, false, [0]⟩, ⟨6, true, []⟩] [⟨6, false, [0]⟩, ⟨6, true, []⟩] .unk .unk (by decide) (by simp)
  rw [show sameI [⟨6, false, [0]⟩, ⟨6, true, []⟩] [⟨6, false, [0]⟩, ⟨6, true, []⟩] = true by kernel_rfl] at q
  exact .weak q
theorem ex_chains_is : PureIs prog 36 [.ag togM.cells, .sl false [[.sl false [[.sc (.int .i64 0)]] .full], [.sl false [[.sc (.int .i64 1)]] .full], [.sl false [[.sc (.int .i64 0)], [.sc (.int .i64 0)]] .full], [.sl false [[.sc (.int .i64 1)], [.sc (.int .i64 0)], [.sc (.int .i64 1)]] .full]] .full]
    (.tu [.sl false [[.sl false [[.sc (.int .i64 1)], [.sc (.int .i64 0)], [.sc (.int .i64 0)], [.sc (.int .i64 0)]] .full], [.sl false [[.sc (.int .i64 1)], [.sc (.int .i64 0)], [.sc (.int .i64 1)]] .full]] .full, .sc (.int .i64 0)]) := by
  have q := chains36_is tog_valid tog_check false [[0], [1], [0, 0], [1, 0, 1]] .unk (by decide) (by simp)
  have hR : chainsR togM [[0], [1], [0, 0], [1, 0, 1]] = .tu [.sl false (([[1, 0, 0, 0], [1, 0, 1]] : List (List Int)).map fun w => [.sl w.isEmpty (w.map intC) .full]) .full, .sc (.int .i64 0)] := by
    have h3 : wordsE togM.ins [[0], [1], [0, 0], [1, 0, 1]] = 0 := by kernel_rfl
    rw [chainsR, if_neg (by simp), if_neg (by simp [h3]), ex_chains]; rfl
  rw [hR] at q
  exact .weak q
theorem ex_same37_is : PureIs prog 37 [.sl false [[.sl false [[.sc (.int .i64 1)], [.sc (.int .i64 0)], [.sc (.int .i64 0)], [.sc (.int .i64 0)]] .full], [.sl false [[.sc (.int .i64 1)], [.sc (.int .i64 0)], [.sc (.int .i64 1)]] .full]] .full, .sl false [[.sl false [[.sc (.int .i64 1)], [.sc (.int .i64 0)], [.sc (.int .i64 0)], [.sc (.int .i64 0)]] .full], [.sl false [[.sc (.int .i64 1)], [.sc (.int .i64 0)], [.sc (.int .i64 1)]] .full]] .full] (.sc (.bool true)) := by
  have q := same37_is false false [(false, [1, 0, 0, 0], .full), (false, [1, 0, 1], .full)] [(false, [1, 0, 0, 0], .full), (false, [1, 0, 1], .full)] .full .full (by decide) (by simp)
  rw [sameW_refl] at q
  exact q
set_option maxHeartbeats 4000000 in
theorem lives_is : PureIs prog 14 [] (.sc (.bool true)) := by
  refine PureIs.of (nv := 15) (hid := [83, 85, 110]) func14 rfl (by kernel_rfl) (by simp [ntmps14]) fun _ => ?_
  rw [ntmps14, results14]
  refine EvC.seq (EvC.rg (by (simp only [go_sem]) <;> rfl) (by simp) ?_)
  refine EvC.seq (EvC.rg (by (simp only [go_sem]) <;> rfl) (by simp) ?_)
  apply EvC.seq
  apply EvC.tr
  · apply Tr.run
    · (simp only [go_sem]) <;> rfl
    · simp
    apply Tr.cons
    · exact .call rfl rfl (by (simp only [go_sem]) <;> rfl) (by (simp only [go_sem]) <;> rfl) (by (simp only [go_sem]) <;> rfl) (by (simp only [go_sem]) <;> rfl) (by (simp only [go_sem]) <;> rfl) (ex_order_is)
    apply Tr.done
    · (simp only [go_sem]) <;> rfl
    · simp
  apply EvC.seq
  apply EvC.tr
  · apply Tr.run
    · (simp only [go_sem]) <;> rfl
    · simp
    apply Tr.cons
    · exact .call rfl rfl (by (simp only [go_sem]) <;> rfl) (by (simp only [go_sem]) <;> rfl) (by (simp only [go_sem]) <;> rfl) (by (simp only [go_sem]) <;> rfl) (by (simp only [go_sem]) <;> rfl) (ex_curve_is)
    apply Tr.done
    · (simp only [go_sem]) <;> rfl
    · simp
  apply EvC.seq
  apply EvC.tr
  · apply Tr.run
    · (simp only [go_sem]) <;> rfl
    · simp
    apply Tr.cons
    · exact .call rfl rfl (by (simp only [go_sem]) <;> rfl) (by (simp only [go_sem]) <;> rfl) (by (simp only [go_sem]) <;> rfl) (by (simp only [go_sem]) <;> rfl) (by (simp only [go_sem]) <;> rfl) (ex_late1_is)
    apply Tr.done
    · (simp only [go_sem]) <;> rfl
    · simp
  apply EvC.seq
  apply EvC.tr
  · apply Tr.run
    · (simp only [go_sem]) <;> rfl
    · simp
    apply Tr.cons
    · exact .call rfl rfl (by (simp only [go_sem]) <;> rfl) (by (simp only [go_sem]) <;> rfl) (by (simp only [go_sem]) <;> rfl) (by (simp only [go_sem]) <;> rfl) (by (simp only [go_sem]) <;> rfl) (ex_late2_is)
    apply Tr.done
    · (simp only [go_sem]) <;> rfl
    · simp
  refine EvC.seq ?_
  apply EvC.seq
  apply EvC.tr
  · apply Tr.run
    · (simp only [go_sem]) <;> rfl
    · simp
    apply Tr.cons
    · exact .callG rfl rfl (by (simp only [go_sem]) <;> rfl) rfl (by (simp only [go_sem]) <;> rfl) (by (simp only [go_sem]) <;> rfl) (by (simp only [go_sem]) <;> rfl) (by (simp only [go_sem]) <;> rfl) (by (simp only [go_sem]) <;> rfl) (ex_same_is false false [0, 2, 1, 3] (by simp))
    apply Tr.run
    · (simp only [go_sem]) <;> rfl
    · simp
    apply Tr.cons
    · exact .callG rfl rfl (by (simp only [go_sem]) <;> rfl) rfl (by (simp only [go_sem]) <;> rfl) (by (simp only [go_sem]) <;> rfl) (by (simp only [go_sem]) <;> rfl) (by (simp only [go_sem]) <;> rfl) (by (simp only [go_sem]) <;> rfl) (ex_curves_is [(2, 2), (6, 4), (7, 4), (8, 4)] (by simp))
    apply Tr.done
    · (simp only [go_sem]) <;> rfl
    · simp
  refine EvC.cond_false (by (simp only [go_sem]) <;> rfl) ?_
  refine EvC.skip ?_
  refine EvC.seq ?_
  refine EvC.seq (EvC.rg (by (simp only [go_sem]) <;> rfl) (by simp) ?_)
  refine EvC.block ?_  -- 0
  refine EvC.loopS (σ := Nat) (fun i => ⟨[(1, exA), (10, .sc (.int .i64 i))], [], [], 0⟩) (fun i => 4 - i) (fun i => i ≤ 4) [1, 10] 0 ?_ ?_
  · refine ⟨[], 0, rfl, (by (simp only [go_sem, Int.natCast_zero]) <;> rfl), by decide⟩
  rintro i hi4
  refine EvC.seq ?_
  refine EvC.seq (EvC.rg (by (simp only [go_sem]) <;> rfl) (by simp) ?_)
  refine EvC.cond (by (simp only [go_sem]) <;> rfl) (fun hc => ?_) (fun hc => ?_)
  rotate_left
  · -- else
    refine EvC.exit ?_  -- 0
    apply EvC.seq
    apply EvC.tr
    · apply Tr.run
      · (simp only [go_sem]) <;> rfl
      · simp
      apply Tr.cons
      · exact .call rfl rfl (by (simp only [go_sem]) <;> rfl) (by (simp only [go_sem]) <;> rfl) (by (simp only [go_sem]) <;> rfl) (by (simp only [go_sem]) <;> rfl) (by (simp only [go_sem]) <;> rfl) (toggle_is)
      apply Tr.run
      · (simp only [go_sem]) <;> rfl
      · simp
      apply Tr.cons
      · exact .call rfl rfl (by (simp only [go_sem]) <;> rfl) (by (simp only [go_sem]) <;> rfl) (by (simp only [go_sem]) <;> rfl) (by (simp only [go_sem]) <;> rfl) (by (simp only [go_sem]) <;> rfl) (ex_items_is)
      apply Tr.done
      · (simp only [go_sem]) <;> rfl
      · simp
    apply EvC.seq
    apply EvC.tr
    · apply Tr.run
      · (simp only [go_sem]) <;> rfl
      · simp
      apply Tr.cons
      · exact .call rfl rfl (by (simp only [go_sem]) <;> rfl) (by (simp only [go_sem]) <;> rfl) (by (simp only [go_sem]) <;> rfl) (by (simp only [go_sem]) <;> rfl) (by (simp only [go_sem]) <;> rfl) (toggle_is)
      apply Tr.run
      · (simp only [go_sem]) <;> rfl
      · simp
      apply Tr.cons
      · exact .call rfl rfl (by (simp only [go_sem]) <;> rfl) (by (simp only [go_sem]) <;> rfl) (by (simp only [go_sem]) <;> rfl) (by (simp only [go_sem]) <;> rfl) (by (simp only [go_sem]) <;> rfl) (ex_chains_is)
      apply Tr.done
      · (simp only [go_sem]) <;> rfl
      · simp
    apply EvC.seq
    apply EvC.tr
    · apply Tr.run
      · (simp only [go_sem]) <;> rfl
      · simp
      apply Tr.cons
      · exact .callG rfl rfl (by (simp only [go_sem]) <;> rfl) rfl (by (simp only [go_sem]) <;> rfl) (by (simp only [go_sem]) <;> rfl) (by (simp only [go_sem]) <;> rfl) (by (simp only [go_sem]) <;> rfl) (by (simp only [go_sem]) <;> rfl) (ex_sameI_is)
      apply Tr.run
      · (simp only [go_sem]) <;> rfl
      · simp
      apply Tr.cons
      · exact .callG rfl rfl (by (simp only [go_sem]) <;> rfl) rfl (by (simp only [go_sem]) <;> rfl) (by (simp only [go_sem]) <;> rfl) (by (simp only [go_sem]) <;> rfl) (by (simp only [go_sem]) <;> rfl) (by (simp only [go_sem]) <;> rfl) (ex_same37_is)
      apply Tr.done
      · (simp only [go_sem]) <;> rfl
      · simp
    refine EvC.ret ⟨.inl rfl, _, (by (simp only [go_sem]) <;> rfl), ?_, rfl⟩
    simp only [go_sem]
  have hil : i < 4 := by have : (i : Int) < 4 := by simpa using hc
                         omega
  clear hc
  have hin : (i : Int).toNat = i := Int.toNat_natCast i
  obtain ⟨b, w, nl, c, hb, hw, q, hwl⟩ := ex_best_is hil
  refine EvC.skip ?_
  refine EvC.seq ?_
  refine EvC.block ?_  -- 1
  apply EvC.seq
  apply EvC.tr
  · apply Tr.run
    · (simp only [go_sem, hb, hin]) <;> rfl
    · simp
    apply Tr.cons
    · exact .call rfl rfl (by (simp only [go_sem]) <;> rfl) (by (simp only [go_sem]) <;> rfl) (by (simp only [go_sem]) <;> rfl) (by (simp only [go_sem]) <;> rfl) (by (simp only [go_sem]) <;> rfl) (q)
    apply Tr.done
    · (simp only [go_sem]) <;> rfl
    · simp
  apply EvC.seq
  apply EvC.tr
  · apply Tr.run
    · (simp only [go_sem, hw, hin]) <;> rfl
    · simp
    apply Tr.cons
    · exact .callG rfl rfl (by (simp only [go_sem]) <;> rfl) rfl (by (simp only [go_sem]) <;> rfl) (by (simp only [go_sem]) <;> rfl) (by (simp only [go_sem]) <;> rfl) (by (simp only [go_sem]) <;> rfl) (by (simp only [go_sem]) <;> rfl) (ex_same2_is w.isEmpty nl .full c w hwl)
    apply Tr.done
    · (simp only [go_sem]) <;> rfl
    · simp
  refine EvC.cond_false (by (simp only [go_sem]) <;> rfl) ?_
  refine EvC.skip ?_
  refine EvC.rg (by (simp only [go_sem]) <;> rfl) (by exact inI64_of (by omega) (by omega)) ?_
  exact ⟨[], i + 1, rfl, (by (simp only [go_sem, Int.natCast_add, Int.natCast_one]) <;> rfl), by omega, by omega⟩
end Go.Avl
namespace Go.Avl
open Go Go.ChangeShapes Go.RowKit

/-- Every cell that is there. -/
def Live (w : World) : Nat → Nat → Prop := fun b _ => b < w.heap.size

section
variable {H : Type} {enc : TypeId × Value → H} {P : Program} {w : World} {α β : Type}

/-- What is read is of a size that memory can hold. -/
def Fits (P : Program) (t : TypeId) (d : DataW H) : Prop := ∀ n ∈ d.weights P t, n ≤ reachBytes
theorem fits_all {P : Program} {e : TypeId} : ∀ {l : List (DataW H)}, (∀ n ∈ DataW.weightsAll P e l, n ≤ reachBytes) → ∀ d ∈ l, Fits P e d
  | [], _, d, hd => by cases hd
  | a :: l, h, d, hd => by
    simp only [DataW.weightsAll, List.mem_append] at h
    rcases List.mem_cons.1 hd with rfl | hd
    · exact fun n hn => h n (.inl hn)
    · exact fits_all (fun n hn => h n (.inr hn)) d hd
theorem fits_each {P : Program} : ∀ {ts : List TypeId} {l : List (DataW H)}, (∀ n ∈ DataW.weightsEach P ts l, n ≤ reachBytes) → ∀ (i : Nat) t d, ts[i]? = some t → l[i]? = some d → Fits P t d
  | [], _, _, i, t, d, h1, _ => by simp at h1
  | _ :: _, [], _, i, t, d, _, h2 => by simp at h2
  | a :: ts, b :: l, h, i, t, d, h1, h2 => by
    simp only [DataW.weightsEach, List.mem_append] at h
    cases i with
    | zero =>
      simp only [List.getElem?_cons_zero, Option.some.injEq] at h1 h2
      subst h1; subst h2
      exact fun n hn => h n (.inl hn)
    | succ i => exact fits_each (fun n hn => h n (.inr hn)) i t d (by simpa using h1) (by simpa using h2)

/-- The cells of a reading, as abstract values. -/
def Reads (enc : TypeId × Value → H) (P : Program) (w : World) (t : TypeId) (f : α → List AV) (Ok : α → Prop) : Prop :=
  ∀ fuel cs x, Fits P t x.1 → DataW.trod enc P w 0 (fun _ => true) true fuel t cs = some x →
    ∃ a, Ok a ∧ Imms (Live w) w cs (f a) ∧ ∀ v ∈ cs, v.oneCell' = true

theorem Imms.one {F : Nat → Nat → Prop} {v : Value} {x : AV} (h : Imm F w v x) : Imms F w [v] [x] :=
  ⟨rfl, fun i h1 _ => by have : i = 0 := by simpa using h1
                         subst this; exact h⟩
theorem Imms.append {F : Nat → Nat → Prop} {vs vs' : List Value} {xs xs' : List AV} (h : Imms F w vs xs) (h' : Imms F w vs' xs') : Imms F w (vs ++ vs') (xs ++ xs') := by
  have e := h.1
  have e' := h'.1
  refine ⟨by simp [e, e'], fun i h1 h2 => ?_⟩
  by_cases hi : i < vs.length
  · rw [List.getElem_append_left hi, List.getElem_append_left (by omega)]; exact h.2 i _ _
  · rw [List.getElem_append_right (by omega), List.getElem_append_right (by omega)]
    have := h'.2 (i - vs.length) (by simp at h1; omega) (by simp at h2; omega)
    simpa only [e] using this

theorem Reads.mono {t : TypeId} {f : α → List AV} {Ok : α → Prop} {g : β → List AV} {Ok' : β → Prop} (h : Reads enc P w t f Ok) (hq : ∀ a, Ok a → ∃ b, Ok' b ∧ g b = f a) : Reads enc P w t g Ok' :=
  fun fuel cs x hs ht => let ⟨a, h1, h2, h3⟩ := h fuel cs x hs ht; let ⟨b, k1, k2⟩ := hq a h1; ⟨b, k1, by rw [k2]; exact h2, h3⟩
theorem Reads.int {t : TypeId} {k : IntKind} (ht : P.underlying t = some (.int k)) : Reads enc P w t (fun n : Int => [.sc (.int k n)]) (fun n => (Lit.int k n).wf = true) := fun fuel cs x _ h => by
  obtain ⟨n, rfl, rfl, hw⟩ := DataW.trod_int ht h
  exact ⟨n, hw, .one (.sc _), by simp [Value.oneCell']⟩
theorem Reads.bool {t : TypeId} (ht : P.underlying t = some .bool) : Reads enc P w t (fun b : Bool => [.sc (.bool b)]) (fun _ => True) := fun fuel cs x _ h => by
  obtain ⟨b, rfl, rfl⟩ := DataW.trod_bool ht h
  exact ⟨b, trivial, .one (.sc _), by simp [Value.oneCell']⟩

theorem pick {α : Type} {p : Nat → α → Prop} (n : Nat) (h : ∀ i, i < n → ∃ a, p i a) : ∃ l : List α, l.length = n ∧ ∀ i (hi : i < l.length), p i l[i] := by
  induction n with
  | zero => exact ⟨[], rfl, fun i hi => by simp at hi⟩
  | succ n ih =>
    obtain ⟨l, h1, h2⟩ := ih fun i hi => h i (by omega)
    obtain ⟨a, ha⟩ := h n (by omega)
    refine ⟨l ++ [a], by simp [h1], fun i hi => ?_⟩
    by_cases h3 : i < l.length
    · rw [List.getElem_append_left h3]; exact h2 i h3
    · have : i = l.length := by simp at hi; omega
      subst this
      rw [List.getElem_append_right (Nat.le_refl _)]
      simpa [h1] using ha

theorem Reads.slice {t e : TypeId} {f : α → List AV} {Ok : α → Prop} (ht : P.underlying t = some (.slice e)) (he : Reads enc P w e f Ok) (hz : ∀ a, (f a).length = P.cellsOf e) (hz0 : 0 < P.cellsOf e) :
    Reads enc P w t (fun x : Bool × List α => [.sl x.1 (x.2.map f) .unk]) (fun x => (∀ y ∈ x.2, Ok y) ∧ (x.1 = true → x.2 = []) ∧ x.2.length * P.bytesOf e ≤ reachBytes) := fun fuel cs x hs h => by
  rcases DataW.trod_slice ht h with ⟨rfl, rfl⟩ | ⟨a, len, cap, elems, rest, n, rfl, rfl, rfl, _, hlc, hcm, hlen, hel, hrest, _⟩
  · exact ⟨(true, []), ⟨by simp, fun _ => rfl, by simp⟩, .one (.nil _ (.inl rfl)), by simp [Value.oneCell']⟩
  unfold Fits at hs
  simp only [DataW.weights, ht, List.mem_cons, List.mem_append, List.length_map] at hs
  have hbytes : len * P.bytesOf e ≤ reachBytes := by
    have := hs _ (.inl rfl)
    rw [hlen, Nat.add_mul] at this; omega
  have hfit : ∀ i (hi : i < elems.length), Fits P e elems[i].1 := fun i hi =>
    fits_all (l := elems.map (·.1)) (fun n hn => hs n (.inr (.inl hn))) _ (List.mem_map.2 ⟨_, List.getElem_mem hi, rfl⟩)
  by_cases hc0 : cap = 0
  · have hl0 : len = 0 := by omega
    subst hc0; subst hl0
    exact ⟨(false, []), ⟨by simp, by simp, by simp⟩, .one (.sz a _ (.inl rfl)), by simp [Value.oneCell']⟩
  have hfirst : ∃ v, w.cell? a = some v := by
    have hcells : ∃ cs', w.cells? 0 a (P.cellsOf e) = some cs' := by
      by_cases hl0 : len = 0
      · subst hl0
        have h1 := (hrest rfl).2 0 (by omega)
        rw [List.getElem?_eq_getElem (by rw [(hrest rfl).1]; omega)] at h1
        obtain ⟨cs', h2, _⟩ := Option.bind_eq_some_iff.1 h1
        refine ⟨cs', ?_⟩
        simpa [Addr.add] using h2
      · have h1 := hel 0 (by omega)
        rw [List.getElem?_eq_getElem (by omega)] at h1
        obtain ⟨cs', h2, _⟩ := Option.bind_eq_some_iff.1 h1
        refine ⟨cs', ?_⟩
        simpa [Addr.add] using h2
    obtain ⟨cs', h2⟩ := hcells
    obtain ⟨_, q1, q2⟩ := World.cells?_some h2
    have := q2 0 hz0
    rw [List.getElem?_eq_getElem (by omega)] at this
    exact ⟨_, by simpa [Addr.add] using this⟩
  have hsp : a.spot = none := by
    obtain ⟨v, hv⟩ := hfirst
    unfold World.cell? at hv
    cases hsp : a.spot with
    | none => rfl
    | some k =>
      rw [hsp] at hv
      split at hv <;> simp at hv
  obtain ⟨b, off, spt⟩ := a
  cases hsp
  have key : ∀ i, i < len → ∃ y : α, Ok y ∧ ∃ cs', cs'.length = P.cellsOf e ∧ (∀ j (hj : j < cs'.length), w.cell? ⟨b, off + i * P.cellsOf e + j, none⟩ = some cs'[j]) ∧ Imms (Live w) w cs' (f y) ∧ ∀ v ∈ cs', v.oneCell' = true := fun i hi => by
    have h1 := hel i hi
    rw [List.getElem?_eq_getElem (by omega)] at h1
    obtain ⟨cs', h2, h3⟩ := Option.bind_eq_some_iff.1 h1
    obtain ⟨y, k1, k2, k3⟩ := he _ _ _ (hfit i (by omega)) h3
    obtain ⟨_, q1, q2⟩ := World.cells?_some h2
    refine ⟨y, k1, cs', q1, fun j hj => ?_, k2, k3⟩
    have := q2 j (by omega)
    rw [List.getElem?_eq_getElem hj] at this
    rw [← this]
    congr 1
    unfold Addr.add
    by_cases e1 : i * P.cellsOf e = 0
    · rw [if_pos e1]
      by_cases e2 : j = 0
      · subst e2; simp [e1]
      · rw [if_neg e2]; simp [e1]
    · rw [if_neg e1]
      by_cases e2 : j = 0
      · subst e2; simp
      · rw [if_neg e2]
  obtain ⟨l, hl, hp⟩ := pick len key
  refine ⟨(false, l), ⟨fun y hy => ?_, by simp, by rw [hl]; exact hbytes⟩, .one ?_, by simp [Value.oneCell']⟩
  · obtain ⟨i, hi, rfl⟩ := List.getElem_of_mem hy
    exact (hp i hi).1
  · -- the cells of the row
    have hcell : ∀ i j, i < len → j < P.cellsOf e → ∃ v, w.cell? ⟨b, off + i * P.cellsOf e + j, none⟩ = some v ∧ v.oneCell' = true ∧ ∀ (h : i < l.length) (h' : j < (f l[i]).length), Imm (Live w) w v (f l[i])[j] := fun i j hi hj => by
      obtain ⟨_, cs', q1, q2, q3, q4⟩ := hp i (by omega)
      exact ⟨cs'[j], q2 j (by omega), q4 _ (List.getElem_mem _), fun h h' => q3.2 j (by omega) h'⟩
    have hv := fun i j => show ∃ v, i < len → j < P.cellsOf e → w.cell? ⟨b, off + i * P.cellsOf e + j, none⟩ = some v ∧ v.oneCell' = true ∧ ∀ (h : i < l.length) (h' : j < (f l[i]).length), Imm (Live w) w v (f l[i])[j] from by
      by_cases h : i < len ∧ j < P.cellsOf e
      · obtain ⟨v, hv⟩ := hcell i j h.1 h.2; exact ⟨v, fun _ _ => hv⟩
      · exact ⟨undef, fun h1 h2 => absurd ⟨h1, h2⟩ h⟩
    have hvs : ∀ i j, ∃ v, v = Classical.choose (hv i j) := fun i j => ⟨_, rfl⟩
    have e0 : (l.map f).length = len := by simp [hl]
    have := Imm.sl (F := Live w) (w := w) b off cap (P.cellsOf e) (l.map f) .unk (fun i j => Classical.choose (hv i j)) (by rw [e0]; exact hlc) (.inl rfl) (fun i hi => by rw [List.getElem_map]; exact hz _)
      (fun i j hi hj => by
        obtain ⟨k1, k2, _⟩ := Classical.choose_spec (hv i j) (by rw [← e0]; exact hi) hj
        refine ⟨?_, k1, k2⟩
        unfold World.cell? at k1
        show b < w.heap.size
        cases hb : w.heap[b]? with
        | none => simp [hb] at k1
        | some o => exact (Array.getElem?_eq_some_iff.1 hb).1)
      (fun i j h h' => by
        have h'2 := h'
        rw [List.getElem_map, hz] at h'2
        have := (Classical.choose_spec (hv i j) (by rw [← e0]; exact h) h'2).2.2 (by simpa using h) (by rw [hz]; exact h'2)
        simpa only [List.getElem_map] using this)
    rw [e0] at this
    exact this

/-- The fields of a struct from cell k on. -/
def RdF (enc : TypeId × Value → H) (P : Program) (w : World) (L : List Field) (k tot : Nat) (f : α → List AV) (Ok : α → Prop) : Prop :=
  ∀ (n : Nat) (cs : List Value), cs.length = tot → (∀ fd ∈ L, ∃ y, DataW.trod enc P w 0 (fun _ => true) true n fd.type ((cs.drop fd.offset).take (P.cellsOf fd.type)) = some y ∧ Fits P fd.type y.1) →
    ∃ a, Ok a ∧ Imms (Live w) w (cs.drop k) (f a) ∧ ∀ v ∈ cs.drop k, v.oneCell' = true
theorem RdF.nil {tot : Nat} : RdF enc P w [] tot tot (fun _ : Unit => []) (fun _ => True) := fun n cs hl _ => by
  have : cs.drop tot = [] := by rw [List.drop_eq_nil_iff]; omega
  rw [this]
  exact ⟨(), trivial, ⟨rfl, fun i h => by simp at h⟩, by simp⟩
theorem RdF.cons {fd : Field} {fs : List Field} {k k' sz tot : Nat} {f : α → List AV} {Ok : α → Prop} {g : β → List AV} {Ok' : β → Prop} (ho : fd.offset = k) (hz : P.cellsOf fd.type = sz) (hk : k + sz = k')
    (h : Reads enc P w fd.type f Ok) (hs : RdF enc P w fs k' tot g Ok') : RdF enc P w (fd :: fs) k tot (fun x : α × β => f x.1 ++ g x.2) (fun x => Ok x.1 ∧ Ok' x.2) := fun n cs hl hf => by
  obtain ⟨y, hy, hyf⟩ := hf fd List.mem_cons_self
  obtain ⟨a, h1, h2, h3⟩ := h _ _ _ hyf hy
  obtain ⟨b, k1, k2, k3⟩ := hs n cs hl fun fd' h' => hf fd' (List.mem_cons_of_mem _ h')
  have e : cs.drop k = (cs.drop k).take sz ++ cs.drop k' := by
    rw [← hk, ← List.drop_drop, List.take_append_drop]
  rw [ho, hz] at h2 h3
  refine ⟨(a, b), ⟨h1, k1⟩, by rw [e]; exact h2.append k2, fun v hv => ?_⟩
  rw [e, List.mem_append] at hv
  rcases hv with hv | hv
  · exact h3 v hv
  · exact k3 v hv
theorem Reads.struct {t : TypeId} {fs : Array Field} {tot : Nat} {f : α → List AV} {Ok : α → Prop} (ht : P.underlying t = some (.struct fs)) (hz : P.cellsOf t = tot) (h : RdF enc P w fs.toList 0 tot f Ok) : Reads enc P w t f Ok := fun fuel cs x hs hx => by
  obtain ⟨xs, n, _, rfl, hl, hlen, hf⟩ := DataW.trod_struct ht hx
  unfold Fits at hs
  simp only [DataW.weights, ht] at hs
  obtain ⟨a, h1, h2, h3⟩ := h n cs (hl.trans hz) fun fd hfd => by
    obtain ⟨i, hi, rfl⟩ := List.getElem_of_mem hfd
    have := hf i fs.toList[i] (by simp)
    have hix : i < xs.length := by simp at hi; omega
    rw [List.getElem?_eq_getElem hix] at this
    exact ⟨_, this, fits_each hs i _ _ (by rw [List.getElem?_map, List.getElem?_eq_getElem hi]; rfl) (by rw [List.getElem?_map, List.getElem?_eq_getElem hix]; rfl)⟩
  exact ⟨a, h1, by simpa using h2, by simpa using h3⟩

theorem arr_go {sz : Nat} {f : α → List AV} {Ok : α → Prop} : ∀ (n : Nat) (cs : List Value), cs.length = n * sz →
    (∀ i, i < n → ∃ a, Ok a ∧ Imms (Live w) w ((cs.drop (i * sz)).take sz) (f a) ∧ ∀ v ∈ (cs.drop (i * sz)).take sz, v.oneCell' = true) →
    ∃ l : List α, l.length = n ∧ (∀ a ∈ l, Ok a) ∧ Imms (Live w) w cs (l.map f).flatten ∧ ∀ v ∈ cs, v.oneCell' = true
  | 0, cs, hl, _ => by
    have : cs = [] := by cases cs with
      | nil => rfl
      | cons a l => simp at hl
    subst this
    exact ⟨[], rfl, by simp, ⟨rfl, fun i h => by simp at h⟩, by simp⟩
  | n + 1, cs, hl, h => by
    obtain ⟨a, h1, h2, h3⟩ := h 0 (by omega)
    obtain ⟨l, k1, k2, k3, k4⟩ := arr_go (sz := sz) n (cs.drop sz) (by rw [List.length_drop, hl, Nat.add_mul]; omega) fun i hi => by
      have := h (i + 1) (by omega)
      rwa [List.drop_drop, show sz + i * sz = (i + 1) * sz by rw [Nat.add_mul]; omega]
    simp only [Nat.zero_mul, List.drop_zero] at h2 h3
    have e := List.take_append_drop sz cs
    refine ⟨a :: l, by simp [k1], fun b hb => ?_, ?_, fun v hv => ?_⟩
    · rcases List.mem_cons.1 hb with rfl | hb
      · exact h1
      · exact k2 b hb
    · rw [← e]; simpa using h2.append k3
    · rw [← e, List.mem_append] at hv
      rcases hv with hv | hv
      · exact h3 v hv
      · exact k4 v hv
theorem Reads.array {t e : TypeId} {n sz : Nat} {f : α → List AV} {Ok : α → Prop} (ht : P.underlying t = some (.array n e)) (hz : P.cellsOf e = sz) (ha : P.cellsOf t = n * sz) (h : Reads enc P w e f Ok) :
    Reads enc P w t (fun l : List α => (l.map f).flatten) (fun l => l.length = n ∧ ∀ a ∈ l, Ok a) := fun fuel cs x hs hx => by
  obtain ⟨xs, m, _, rfl, hl, hlen, hf⟩ := DataW.trod_array ht hx
  rw [ha] at hl
  rw [hz] at hf
  unfold Fits at hs
  simp only [DataW.weights, ht] at hs
  obtain ⟨l, h1, h2, h3, h4⟩ := arr_go n cs hl fun i hi => by
    have := hf i hi
    rw [List.getElem?_eq_getElem (by omega)] at this
    exact h _ _ _ (fits_all hs _ (List.mem_map.2 ⟨_, List.getElem_mem _, rfl⟩)) this
  exact ⟨l, ⟨h1, h2⟩, h3, h4⟩

theorem Reads.imm_struct {t : TypeId} {fs : Array Field} {f : α → List AV} {Ok : α → Prop} {r : Reach} {b0 : Nat} {v : Value} {d : DataW H} {ps : List MemPlace} (ht : P.underlying t = some (.struct fs)) (h : Reads enc P w t f Ok)
    (hv : Value.okWide P w r b0 t v) (hw : Fits P t d) (hd : DataW.Trod enc P w 0 (fun _ => true) true t v d ps) : ∃ a, Ok a ∧ Imm (Live w) w v (.ag (f a)) := by
  obtain ⟨cs, rfl, _⟩ := WideShapes.okWide_struct ht hv
  obtain ⟨fuel, hd⟩ := hd
  obtain ⟨a, h1, h2, _⟩ := h _ _ _ hw hd
  refine ⟨a, h1, ?_⟩
  have : (Value.agg cs) = .agg cs.toList.toArray := by simp
  rw [this]
  exact .ag _ _ h2.1 h2.2
theorem Reads.imm_array {t e : TypeId} {n : Nat} {f : α → List AV} {Ok : α → Prop} {r : Reach} {b0 : Nat} {v : Value} {d : DataW H} {ps : List MemPlace} (ht : P.underlying t = some (.array n e)) (h : Reads enc P w t f Ok)
    (hv : Value.okWide P w r b0 t v) (hw : Fits P t d) (hd : DataW.Trod enc P w 0 (fun _ => true) true t v d ps) : ∃ a, Ok a ∧ Imm (Live w) w v (.ag (f a)) := by
  simp only [Value.okWide, ht] at hv
  obtain ⟨cs, rfl, _⟩ := hv
  obtain ⟨fuel, hd⟩ := hd
  obtain ⟨a, h1, h2, _⟩ := h _ _ _ hw hd
  refine ⟨a, h1, ?_⟩
  have : (Value.agg cs) = .agg cs.toList.toArray := by simp
  rw [this]
  exact .ag _ _ h2.1 h2.2
theorem Reads.imm_slice {t e : TypeId} {f : α → AV} {Ok : α → Prop} {r : Reach} {b0 : Nat} {v : Value} {d : DataW H} {ps : List MemPlace} (ht : P.underlying t = some (.slice e)) (h : Reads enc P w t (fun a => [f a]) Ok)
    (hv : Value.okWide P w r b0 t v) (hw : Fits P t d) (hd : DataW.Trod enc P w 0 (fun _ => true) true t v d ps) : ∃ a, Ok a ∧ Imm (Live w) w v (f a) := by
  have hc : v.cells = #[v] := by
    simp only [Value.okWide, ht, Cell.okWide] at hv
    cases v <;> simp_all [Cell.ok, Value.cells]
  obtain ⟨fuel, hd⟩ := hd
  obtain ⟨a, h1, h2, _⟩ := h _ _ _ hw hd
  rw [hc] at h2
  exact ⟨a, h1, h2.2 0 (by simp) (by simp)⟩

theorem Grown.below {F F' : Nat → Nat → Prop} {w' : World} (g : Avl.Grown F w F' w') : Below w.heap.size w w' := ⟨g.kept.os, g.kept.tape, g.kept.output, g.size, g.old⟩

theorem trodAll_stays (hl : laidOutB P = true) {w' : World} (hb : Below w.heap.size w w') {spf : Nat → Bool} : ∀ {ts : List TypeId} {vs : List Value} {ds : List (DataW H)} {ps : List MemPlace}, (∀ t ∈ ts, P.readableRec t = true ∧ t < P.types.size) →
    DataW.TrodAll enc P w 0 (fun _ => true) true ts vs ds ps → (∀ p ∈ ps, p.block < w.heap.size) → (∀ p ∈ ps, spf p.block = true) → DataW.TrodAll enc P w' 0 spf true ts vs ds ps
  | [], [], [], _, _, h, _, _ => h
  | t :: ts, v :: vs, d :: ds, _, hr, ⟨p, q, h1, h2, e⟩, hlt, hsp => by
    subst e
    refine ⟨p, q, ?_, trodAll_stays hl hb (fun t ht => hr t (List.mem_cons_of_mem _ ht)) h2 (fun x hx => hlt x (List.mem_append_right _ hx)) fun x hx => hsp x (List.mem_append_right _ hx), rfl⟩
    have := hr t List.mem_cons_self
    exact WideElems.Trod_stays hl this.1 this.2 h1 (fun x hx => hb.same (hlt x (List.mem_append_left _ hx))) fun x hx => hsp x (List.mem_append_left _ hx)
  | [], _ :: _, _, _, _, h, _, _ => h.elim
  | [], [], _ :: _, _, _, h, _, _ => h.elim
  | _ :: _, [], _, _, _, h, _, _ => h.elim
  | _ :: _, _ :: _, [], _, _, h, _, _ => h.elim

/-- A law from its contract: true comes back, and the arguments read as they did. -/
theorem law_calls {f : FuncId} {fn : Func} {s : ChangeSpec} {apart fresh handsOn again : Bool} {args : Array Value} {avs : List AV} {ds : List (DataW H)} {before : List MemPlace} {tb : TypeId}
    (hl : laidOutB P = true) (hrd : (fn.params.toList.all fun t => P.readableRec t && decide (t < P.types.size)) = true) (hrt : fn.resultTypes = #[tb]) (htb : P.underlying tb = some .bool) (hvars : s.vars = [])
    (hs : s.fn H (ds ++ []) = { results := [.lit (.bool true)], args := ds })
    (h : PureIs P f avs (.sc (.bool true))) (hi : Imms (Live w) w args.toList avs) (hW : DataW.Whole enc P fn.params.toList s.vars apart w args.toList ds [] before) (hgl : Globs (Live w) w := by exact fun g vs hg => by cases hg) :
    Calls P f args w fun e W' => ∃ v, e = .returned v ∧ s.post enc P fn apart fresh handsOn again w args v W' := by
  have hW' := hW
  obtain ⟨p, q, hA, hV, rfl, hfz, hnd⟩ := hW
  rw [hvars] at hV
  obtain ⟨_, rfl⟩ := trodVars_none hV
  have hc := callsIn_wide.1 (h.2 (Live w) w args.toList ⟨fun _ _ h => h, hgl⟩ hi)
  rw [Array.toArray_toList] at hc
  refine hc.mono fun e W' ⟨v, F', he, hr, g⟩ => ?_
  have hv : v = .bool true := by cases hr; rfl
  subst hv
  have hb := Grown.below g
  refine ⟨_, he, post_of_same (pa := p) (pv := []) (by simpa using hW') (fun _ _ _ => ?_) (fun sp hsp => ?_) (fun _ _ => ?_) (by simp) (hb.frame _) g.kept.froz ?_⟩
  · rw [hs, hrt]; exact trodAll_mk1 (shut_bool htb true)
  · rw [hs]
    refine trodAll_stays hl hb (fun t ht => ?_) hA (fun x hx => hW'.lt x (by simpa using hx)) fun x hx => hsp x (by simpa using hx)
    have := List.all_eq_true.1 hrd t ht
    simpa using this
  · rw [hvars, hs]; exact rfl
  · exact ok_one hrt rfl (okWide_bool_mk htb true)

end
end Go.Avl
namespace Go.Avl
open Go Go.Proofs
theorem Reads.imm_int {H : Type} {enc : TypeId × Value → H} {w : World} {α : Type} {P : Program} {t : TypeId} {k : IntKind} {f : α → AV} {Ok : α → Prop} {r : Reach} {b0 : Nat} {v : Value} {d : DataW H} {ps : List MemPlace} (ht : P.underlying t = some (.int k)) (h : Reads enc P w t (fun a => [f a]) Ok)
    (hv : Value.okWide P w r b0 t v) (hw : Fits P t d) (hd : DataW.Trod enc P w 0 (fun _ => true) true t v d ps) : ∃ a, Ok a ∧ Imm (Live w) w v (f a) := by
  have hc : v.cells = #[v] := by
    simp only [Value.okWide, ht, Cell.okWide] at hv
    cases v <;> simp_all [Cell.ok, Value.cells]
  obtain ⟨fuel, hd⟩ := hd
  obtain ⟨a, h1, h2, _⟩ := h _ _ _ hw hd
  rw [hc] at h2
  exact ⟨a, h1, h2.2 0 (by simp) (by simp)⟩
end Go.Avl
namespace Go.Proofs.YthdaggogdocmfaaDoor
open Go Go.Avl Go.Proofs Go.ChangeShapes Go.RowKit

theorem Tryd.own : ownKnob Tryd.prog.godebug = none := by kernel_rfl
theorem Tryd.laidOut : laidOutB Tryd.prog = true := by kernel_rfl
/-- What the rows list. -/
abbrev laidT : List (String × DataW Unit) := [("gauntlet/faults.table", Rows.laid_gauntlet_faults_table)]

section
variable {H : Type} {enc : TypeId × Value → H} {w : World}

theorem u8wf {n : Int} (h : (Lit.int .u8 n).wf = true) : 0 ≤ n ∧ n < 256 := by
  simp [Lit.wf, IntKind.min, IntKind.max, IntKind.signed, IntKind.bits] at h
  omega
theorem u32wf {n : Int} (h : (Lit.int .u32 n).wf = true) : 0 ≤ n := by
  simp [Lit.wf, IntKind.min, IntKind.max, IntKind.signed, IntKind.bits] at h
  omega
theorem i64wf {n : Int} (h : (Lit.int .i64 n).wf = true) : -9223372036854775808 ≤ n ∧ n ≤ 9223372036854775807 := by
  simp [Lit.wf, IntKind.min, IntKind.max, IntKind.signed, IntKind.bits] at h
  omega
/-- Rows that memory can hold. -/
theorem len_of {n b : Nat} (hb : 1 ≤ b) (h : n * b ≤ reachBytes) : (n : Int) ≤ 140737488355328 := by
  have h1 : n * 1 ≤ n * b := Nat.mul_le_mul_left n hb
  have h2 : reachBytes ≤ 140737488355328 := by decide
  omega
theorem rd_u8 : Reads enc Tryd.prog w 5 u8C (fun n => 0 ≤ n ∧ n < 256) := (Reads.int (by kernel_rfl)).mono fun a h => ⟨a, u8wf h, rfl⟩
theorem rd_u8' : Reads enc Tryd.prog w 5 (fun n : Int => [.sc (.int .u8 n)]) (fun n => 0 ≤ n ∧ n < 256) := rd_u8
theorem rd_u32 : Reads enc Tryd.prog w 116 (fun n : Int => [.sc (.int .u32 n)]) (fun n => 0 ≤ n) := (Reads.int (by kernel_rfl)).mono fun a h => ⟨a, u32wf h, rfl⟩
theorem rd_i64 : Reads enc Tryd.prog w 3 (fun n : Int => [.sc (.int .i64 n)]) (fun n => -9223372036854775808 ≤ n ∧ n ≤ 9223372036854775807) := (Reads.int Tryd.underlying3).mono fun a h => ⟨a, i64wf h, rfl⟩
theorem rd_ints : Reads enc Tryd.prog w 23 (fun x : Bool × List Int => [.sl x.1 (x.2.map intC) .unk]) (fun x => (x.2.length : Int) ≤ 140737488355328 ∧ (x.1 = true → x.2 = [])) :=
  (Reads.slice Tryd.underlying23 rd_i64 (fun a => by rw [show Program.cellsOf Tryd.prog 3 = 1 by kernel_rfl]; rfl) (by rw [show Program.cellsOf Tryd.prog 3 = 1 by kernel_rfl]; exact Nat.succ_pos _)).mono fun a h => ⟨a, ⟨len_of (b := Program.bytesOf Tryd.prog 3) (by decide +kernel) h.2.2, h.2.1⟩, rfl⟩
theorem rd_item : Reads enc Tryd.prog w 25 itemC (fun _ => True) := by
  have := (Reads.struct (enc := enc) (w := w) (tot := 2) Tryd.underlying25 (by kernel_rfl) (.cons (sz := 1) rfl (by kernel_rfl) rfl rd_i64 (.cons (sz := 1) rfl (by kernel_rfl) rfl rd_ints .nil)))
  exact this.mono fun a _ => ⟨⟨a.1, a.2.1.1, a.2.1.2⟩, trivial, rfl⟩
set_option maxRecDepth 100000 in
theorem rd_items : Reads enc Tryd.prog w 22 (fun x : Bool × List Avl.Item => [.sl x.1 (x.2.map itemC) .unk]) (fun x => (x.2.length : Int) ≤ 140737488355328) :=
  (Reads.slice Tryd.underlying22 rd_item (fun a => by rw [show Program.cellsOf Tryd.prog 25 = 2 by kernel_rfl]; rfl) (by rw [show Program.cellsOf Tryd.prog 25 = 2 by kernel_rfl]; exact Nat.succ_pos _)).mono fun a h => ⟨a, len_of (b := Program.bytesOf Tryd.prog 25) (by decide +kernel) h.2.2, rfl⟩
theorem rd_li : Reads enc Tryd.prog w 118 liC LI.Ok := by
  have := (Reads.struct (enc := enc) (w := w) (tot := 2) Tryd.underlying118 (by kernel_rfl) (.cons (sz := 1) rfl (by kernel_rfl) rfl rd_u8 (.cons (sz := 1) rfl (by kernel_rfl) rfl rd_u32 .nil)))
  exact this.mono fun a h => ⟨⟨a.1, a.2.1⟩, ⟨h.1, h.2.1⟩, rfl⟩
theorem rd_lis : Reads enc Tryd.prog w 60 (fun x : Bool × List LI => [.sl x.1 (x.2.map liC) .unk]) (fun x => ∀ y ∈ x.2, y.Ok) :=
  (Reads.slice Tryd.underlying60 rd_li (fun a => by rw [show Program.cellsOf Tryd.prog 118 = 2 by kernel_rfl]; rfl) (by rw [show Program.cellsOf Tryd.prog 118 = 2 by kernel_rfl]; exact Nat.succ_pos _)).mono fun a h => ⟨a, h.1, rfl⟩
theorem rd_bytes : Reads enc Tryd.prog w 54 (fun x : Bool × List Int => [.sl x.1 (x.2.map u8C) .unk]) (fun x => (∀ e ∈ x.2, 0 ≤ e ∧ e < 256) ∧ (x.2.length : Int) ≤ 140737488355328) :=
  (Reads.slice Tryd.underlying54 rd_u8 (fun a => by rw [show Program.cellsOf Tryd.prog 5 = 1 by kernel_rfl]; rfl) (by rw [show Program.cellsOf Tryd.prog 5 = 1 by kernel_rfl]; exact Nat.succ_pos _)).mono fun a h => ⟨a, ⟨h.1, len_of (b := Program.bytesOf Tryd.prog 5) (by decide +kernel) h.2.2⟩, rfl⟩
end

/-! ### The table -/
theorem gTable : Tryd.prog.globalNamed "gauntlet/faults.table" = some 0 := by kernel_rfl
theorem tTable : (Tryd.prog.globals[0]?).map (·.type) = some 148 := by kernel_rfl
theorem string_eq {s t : ByteArray} (h : s.data.toList = t.data.toList) : s = t := by
  obtain ⟨⟨l⟩⟩ := s; obtain ⟨⟨k⟩⟩ := t
  simp only at h
  rw [h]
set_option maxRecDepth 100000 in
theorem kind_cells {W : World} {m : Nat} {cs : List Value} {n : List UInt8} {a b c : Bool} {ps : List MemPlace} (h : DataW.trod (fun _ => ()) Tryd.prog W 0 (fun _ => true) false m 147 cs = some (.agg [.lit (.string n), .lit (.bool a), .lit (.bool b), .lit (.bool c)], ps)) :
    cs = [kindN n, .bool a, .bool b, .bool c] := by
  obtain ⟨xs, k, _, he, hl, hlen, hf⟩ := DataW.trod_struct Tryd.underlying147 h
  have hl4 : cs.length = 4 := hl.trans (by kernel_rfl)
  match cs, hl4 with
  | [c0, c1, c2, c3], _ =>
    have h0 : DataW.trod (fun _ => ()) Tryd.prog W 0 (fun _ => true) false k 9 (([c0, c1, c2, c3].drop 0).take (Program.cellsOf Tryd.prog 9)) = xs[0]? := hf 0 _ rfl
    have h1 : DataW.trod (fun _ => ()) Tryd.prog W 0 (fun _ => true) false k 4 (([c0, c1, c2, c3].drop 1).take (Program.cellsOf Tryd.prog 4)) = xs[1]? := hf 1 _ rfl
    have h2 : DataW.trod (fun _ => ()) Tryd.prog W 0 (fun _ => true) false k 4 (([c0, c1, c2, c3].drop 2).take (Program.cellsOf Tryd.prog 4)) = xs[2]? := hf 2 _ rfl
    have h3 : DataW.trod (fun _ => ()) Tryd.prog W 0 (fun _ => true) false k 4 (([c0, c1, c2, c3].drop 3).take (Program.cellsOf Tryd.prog 4)) = xs[3]? := hf 3 _ rfl
    have e9 : Program.cellsOf Tryd.prog 9 = 1 := by kernel_rfl
    have e4 : Program.cellsOf Tryd.prog 4 = 1 := by kernel_rfl
    simp only [e9, e4, List.drop_zero, List.drop_succ_cons, List.take_succ_cons, List.take_zero] at h0 h1 h2 h3
    match xs, hlen with
    | [x0, x1, x2, x3], _ =>
      simp only [Prod.mk.injEq, DataW.agg.injEq, List.map_cons, List.map_nil, List.cons.injEq, and_true] at he
      obtain ⟨⟨e0, e1, e2, e3⟩, _⟩ := he
      obtain ⟨s, q0, r0, _⟩ := DataW.trod_string Tryd.underlying9 h0
      obtain ⟨b1, q1, r1⟩ := DataW.trod_bool Tryd.underlying4 h1
      obtain ⟨b2, q2, r2⟩ := DataW.trod_bool Tryd.underlying4 h2
      obtain ⟨b3, q3, r3⟩ := DataW.trod_bool Tryd.underlying4 h3
      rw [r0] at e0; rw [r1] at e1; rw [r2] at e2; rw [r3] at e3
      simp only [DataW.lit.injEq, Lit.string.injEq, Lit.bool.injEq] at e0 e1 e2 e3
      simp only [List.cons.injEq, and_true] at q0 q1 q2 q3
      subst q0 q1 q2 q3 e1 e2 e3
      have : s = ⟨n.toArray⟩ := string_eq (by simpa using e0.symm)
      rw [this]; rfl
set_option maxRecDepth 100000 in
theorem globs_of {W : World} (h : laidMetH Tryd.prog laidT W) : Globs (Live W) W := by
  rw [MakeChecks.laidMetH_plain _ _ _ (by kernel_rfl)] at h
  obtain ⟨ps, ⟨g, t, cs, fuel, p, q, hg, ht, hvar, hd, _, _⟩, _, _⟩ := h
  obtain rfl := Option.some.inj (gTable.symm.trans hg)
  obtain rfl := Option.some.inj (tTable.symm.trans ht)
  obtain ⟨xs, m, _, he, hl, hlen, hf⟩ := DataW.trod_array Tryd.underlying148 hd
  have e147 : Program.cellsOf Tryd.prog 147 = 4 := by kernel_rfl
  have hl20 : cs.toList.length = 20 := hl.trans (by kernel_rfl)
  have hcs : cs.toList = kindTab := by
    rw [e147] at hf
    match xs, hlen with
    | [x0, x1, x2, x3, x4], _ =>
      have h0 := hf 0 (by decide)
      have h1 := hf 1 (by decide)
      have h2 := hf 2 (by decide)
      have h3 := hf 3 (by decide)
      have h4 := hf 4 (by decide)
      simp only [Rows.laid_gauntlet_faults_table, Prod.mk.injEq, DataW.agg.injEq, List.map_cons, List.map_nil, List.cons.injEq, and_true] at he
      obtain ⟨⟨e0, e1, e2, e3, e4⟩, _⟩ := he
      obtain ⟨d0, p0⟩ := x0
      obtain ⟨d1, p1⟩ := x1
      obtain ⟨d2, p2⟩ := x2
      obtain ⟨d3, p3⟩ := x3
      obtain ⟨d4, p4⟩ := x4
      simp only at e0 e1 e2 e3 e4
      subst e0 e1 e2 e3 e4
      have k0 := kind_cells h0
      have k1 := kind_cells h1
      have k2 := kind_cells h2
      have k3 := kind_cells h3
      have k4 := kind_cells h4
      have key : cs.toList = (cs.toList.drop (0 * 4)).take 4 ++ ((cs.toList.drop (1 * 4)).take 4 ++ ((cs.toList.drop (2 * 4)).take 4 ++ ((cs.toList.drop (3 * 4)).take 4 ++ (cs.toList.drop (4 * 4)).take 4))) := by
        have e : (cs.toList.drop (4 * 4)).take 4 = cs.toList.drop (4 * 4) := List.take_of_length_le (by rw [List.length_drop, hl20]; decide)
        rw [e]
        have s : ∀ k, cs.toList.drop (k * 4) = (cs.toList.drop (k * 4)).take 4 ++ cs.toList.drop ((k + 1) * 4) := fun k => by
          rw [show (k + 1) * 4 = k * 4 + 4 by omega, ← List.drop_drop, List.take_append_drop]
        have z : cs.toList = cs.toList.drop (0 * 4) := by simp
        exact z.trans ((s 0).trans (congrArg _ ((s 1).trans (congrArg _ ((s 2).trans (congrArg _ ((s 3).trans (congrArg _ rfl))))))))
      rw [k0, k1, k2, k3, k4] at key
      rw [key]; rfl
  intro g vs hgv j hj
  match g, hgv with
  | 0, hgv =>
    have hgv : kindTab = vs := by simpa [laidAt] using hgv
    subst hgv
    have hc := World.var?_cell gTable hvar j
    have : cs[j]? = some kindTab[j] := by rw [← Array.getElem?_toList, hcs, List.getElem?_eq_getElem hj]
    rw [this] at hc
    refine ⟨?_, hc⟩
    unfold World.cell? at hc
    show 0 < W.heap.size
    cases hb : W.heap[0]? with
    | none => simp [hb] at hc
    | some o => exact (Array.getElem?_eq_some_iff.1 hb).1
/-- The door's own heap meets the condition. -/
theorem door_met (os : Os) (args : Array Value) : laidMetH Tryd.prog laidT ((World.doorLaid Tryd.prog 400 os).forCall (fun _ _ => 0) ⟨#[], args, []⟩).memory :=
  laidMetH_of_parts3 (fuel := 8) (laidMet_of_run' 8 (by kernel_rfl) (by kernel_rfl)) (by kernel_rfl) (by kernel_rfl)
end Go.Proofs.YthdaggogdocmfaaDoor
