/-
  Lemmas.
-/
import Derived.Test.YtmmcendgdcmlkaaDoorPart8
set_option linter.unusedSimpArgs false
set_option linter.unusedVariables false
set_option linter.unnecessarySimpa false
set_option linter.deprecated false
namespace Go.Avl
open Go Go.Proofs.Tryd
set_option maxRecDepth 10000
def idxI (x : Int) : List Int → Int → Int
 | [], _ => -1
 | e :: es, i => if x = e then i else idxI x es (i + 1)
theorem idxI_any (x : Int) : ∀ (es : List Int) (i : Int), 0 ≤ i → decide (0 ≤ idxI x es i) = es.contains x
 | [], i, _ => by simp [idxI]
 | e :: es, i, h => by
   unfold idxI
   split
   ·rename_i hp; simp [hp, h]
   ·rename_i hp
    rw [idxI_any x es (i + 1) (by omega)]
    simp [hp]
theorem indexI_is (nl : Bool) (xs : List Int) (c : Cp) (x : Int) (hl : xs.length < 1000000) :
  PureIs prog 127 [.sl nl (xs.map intC) c, .sc (.int .i64 x)] (.sc (.int .i64 (idxI x xs 0))) := by
 refine PureIs.of1 2 [4, 5, 7, 8, 9, 16] func127 ntmps127 results127 fun _ => ?_
 refine EvC.a ?_
 refine EvC.seq ?_
 refine EvC.a ?_ (by simp only [go_sem, List.length_map] <;> rfl)
 refine EvC.block ?_
 refine EvC.loopS (σ := Nat) (fun i => ⟨[(0, .sl nl (xs.map intC) c), (1, .sc (.int .i64 x)), (7, .sc (.int .i64 xs.length)), (8, .sc (.int .i64 i))], [], [], 0⟩) (fun i => xs.length - i) (fun i => i ≤ xs.length ∧ idxI x xs 0 = idxI x (xs.drop i) i) [0, 1, 7, 8] 0 ?_ ?_
 ·refine ⟨[], 0, rfl, (by simp only [go_sem, Int.natCast_zero] <;> rfl), Nat.zero_le _, by simp⟩
 rintro i ⟨h1, h2⟩
 refine EvC.a ?_
 refine EvC.seq ?_
 refine EvC.cond (by simp only [go_sem] <;> rfl) (fun hc => ?_) (fun hc => ?_)
 rotate_left
 ·refine EvC.exit ?_
  have hi : ¬ i < xs.length := by simpa using hc
  refine EvC.a ?_
  refine EvC.rz ?_
  simp only [go_sem]
  rw [h2, List.drop_of_length_le (by omega)]; rfl
 have hi : i < xs.length := by simpa using hc
 clear hc
 have he : xs[i]? = some xs[i] := List.getElem?_eq_getElem hi
 have hd : xs.drop i = xs[i] :: xs.drop (i + 1) := List.drop_eq_getElem_cons hi
 generalize xs[i] = e at he hd
 have hg : (xs.map intC)[i]? = some [.sc (.int .i64 e)] := by rw [List.getElem?_map, he]; rfl
 have hit : (i : Int).toNat = i := Int.toNat_natCast i
 rw [hd, idxI] at h2
 refine EvC.skip ?_
 refine EvC.seq ?_
 refine EvC.block ?_
 refine EvC.a ?_
 refine EvC.a ?_ (by simp only [go_sem, hg, hit, List.length_map] <;> rfl) (by simp; try omega)
 by_cases hxe : x = e
 ·rw [if_pos hxe] at h2
  refine EvC.ct ?_ (by simp only [go_sem, decide_eq_true hxe] <;> rfl)
  rw [h2]
  refine EvC.a ?_
  refine EvC.rz ?_
  simp only [go_sem]
 ·rw [if_neg hxe] at h2
  refine EvC.cs ?_ (by simp only [go_sem, decide_eq_false hxe] <;> rfl)
  refine EvC.b ?_ (hok := by exact inI64_of (by omega) (by omega))
  exact ⟨[], i + 1, rfl, (by simp only [go_sem, Int.natCast_add, Int.natCast_one] <;> rfl), ⟨by omega, h2⟩, by omega⟩
theorem containsI_is (nl : Bool) (xs : List Int) (c : Cp) (x : Int) (hl : xs.length < 1000000) :
  PureIs prog 115 [.sl nl (xs.map intC) c, .sc (.int .i64 x)] (.sc (.bool (xs.contains x))) := by
 refine PureIs.of1 2 [4] func115 ntmps115 results115 fun _ => ?_
 refine EvC.a ?_
 refine EvC.k1 ?_ (c1 := .ca (indexI_is nl xs c x hl))
 refine EvC.rz ?_
 simp only [go_sem]
 rw [idxI_any x xs 0 (Int.le_refl _)]
theorem has93_is (nl : Bool) (xs : List Int) (c : Cp) (x : Int) (hl : xs.length < 1000000) :
  PureIs prog 93 [.ag [.sl nl (xs.map intC) c], .sc (.int .i64 x)] (.sc (.bool (xs.contains x))) := by
 refine PureIs.of1 3 [4] func93 ntmps93 results93 fun _ => ?_
 refine EvC.a ?_
 refine EvC.z 0 ?_
 refine EvC.k1 ?_ (c1 := .ca (containsI_is nl xs c x hl))
 refine EvC.rz ?_
 simp only [go_sem]
theorem within92_is (nl : Bool) (xs : List Int) (c : Cp) (x : Int) (hl : xs.length < 1000000) :
  PureIs prog 92 [.sc (.int .i64 x), .ia [.sl nl (xs.map intC) c]] (.sc (.bool (!xs.contains x))) := by
 refine PureIs.of1 2 [3] func92 ntmps92 results92 fun _ => ?_
 refine EvC.a ?_
 refine EvC.k1 ?_ (c1 := .ca (has93_is nl xs c x hl))
 refine EvC.rz ?_
 simp only [go_sem]
def subB (a b : List Int) : Bool := !(a.any fun x => !b.contains x)
theorem within63_is (na : Bool) (a : List Int) (ca : Cp) (nb : Bool) (b : List Int) (cb : Cp) (ha : a.length < 1000000) (hb : b.length < 1000000) :
  PureIs prog 63 [.ag [.sl na (a.map intC) ca], .ag [.sl nb (b.map intC) cb]] (.sc (.bool (subB a b))) := by
 have hbn := norefs_intC b
 have q := containsInt_is na a ca 92 [.ia [.sl nb (b.map intC) cb]] (by simp [AV.norefs, AV.noref]) (fun x => !b.contains x) (fun x _ => within92_is nb b cb x hb) ha
 refine PureIs.of1 5 [] func63 ntmps63 results63 fun _ => ?_
 refine EvC.a ?_
 refine EvC.z 0 ?_
 refine EvC.z 1 ?_
 refine EvC.k1 ?_ (c1 := .ca q)
 refine EvC.rz ?_
 simp only [go_sem]
 rfl
def killL (m t : Mach) : List RW → Nat → List Int
 | [], _ => []
 | w :: ws, i => if runR m 0 w.2.1 = runR t 0 w.2.1 then killL m t ws (i + 1) else (i : Int) :: killL m t ws (i + 1)
theorem killL_len (m t : Mach) : ∀ (ws : List RW) (i : Nat), (killL m t ws i).length ≤ ws.length
 | [], _ => Nat.le_refl _
 | w :: ws, i => by
   have := killL_len m t ws (i + 1)
   rw [killL]
   split <;> simp only [List.length_cons] <;> omega
def killersA (m : Mach) (W : List RW) (f : FA) : AV :=
 if checkF m f ≠ 0 then .tu [.ag [.sl true [] .zer], .sc (.int .i64 (checkF m f))]
 else .tu [.ag [.sl (killL m (mutF m f) W 0).isEmpty ((killL m (mutF m f) W 0).map intC) .unk], .sc (.int .i64 0)]
structure WordsOk (m : Mach) (W : List RW) : Prop where
 e : ∀ w ∈ W, wordErr m.ins w.2.1 = 0
 l : ∀ w ∈ W, w.2.1.length < 1000000
 n : W.length < 1000000
set_option maxHeartbeats 4000000 in
theorem killers_is {m : Mach} (hv : Valid m) (hnn : NoNil m) (wn : Bool) (W : List RW) (wc : Cp) (hW : WordsOk m W) (f : FA) :
  PureIs prog 62 [.ag m.cells, .sl wn (W.map rwC) wc, .ag f.cells] (killersA m W f) := by
 have q := apply71_is hv (checkM_of hv) hnn f
 unfold applyR at q
 unfold killersA
 have hWn := norefs_rw W
 have hfc : f.cells = [.sc (.int .i64 f.kind), .sc (.int .i64 f.state), .sc (.int .i64 f.input), .sc (.int .i64 f.to), .sc (.int .i64 f.at'), .sc (.int .i64 f.out)] := rfl
 rw [hfc] at q ⊢
 refine PureIs.of1 4 [5, 6, 7, 8, 9, 10, 11, 13, 22, 25, 26, 27, 28, 47] func62 ntmps62 results62 fun _ => ?_
 refine EvC.a ?_ (by simp only [go_sem, Mach.cells] <;> rfl)
 refine EvC.z 0 ?_
 refine EvC.z 1 ?_
 by_cases h0 : checkF m f = 0
 rotate_left
 ·rw [if_neg h0] at q
  rw [if_pos h0]
  refine EvC.k1 ?_ (h1 := by simp only [go_sem, Mach.cells] <;> rfl) (c1 := .ca q)
  refine EvC.seq ?_
  refine EvC.a ?_
  refine EvC.ct ?_ (by simp only [go_sem, decide_eq_false h0] <;> rfl)
  refine EvC.a ?_
  refine EvC.rz ?_
  simp only [go_sem]
 rw [if_pos h0] at q
 rw [if_neg (show ¬ checkF m f ≠ 0 from fun h => h h0)]
 have hvt := mutF_valid hv h0
 have hti : (mutF m f).ins = m.ins := rfl
 obtain ⟨t, ht⟩ : ∃ t, t = mutF m f := ⟨_, rfl⟩
 rw [← ht] at q hvt hti ⊢
 have htc : t.cells = [.sc (.int .i64 t.ins), .sc (.int .i64 t.outs), .sl t.nl (t.rows.map rowC) .unk] := rfl
 rw [htc] at q
 refine EvC.k1 ?_ (h1 := by simp only [go_sem, Mach.cells] <;> rfl) (c1 := .ca q)
 refine EvC.z 10 ?_
 refine EvC.seq ?_
 refine EvC.a ?_
 refine EvC.cs ?_
 refine EvC.seq ?_
 refine EvC.a ?_ (by simp only [go_sem, List.length_map] <;> rfl)
 refine EvC.block ?_
 refine EvC.gcTo ⟨[(3, .ia m.cells), (6, .rf 0 0), (8, .ia t.cells), (25, .sl wn (W.map rwC) wc), (26, .sc (.int .i64 W.length)), (27, .sc (.int .i64 0))], [], [(0, .cells [.sl true [] .zer])], 1⟩ [3, 6, 8, 25, 26, 27] [(2, 0)] rfl (by simp only [go_sem, Mach.cells] <;> rfl) ?_
 refine EvC.ownC 0 0 1 (by simp only [go_sem] <;> rfl) ?_
 have hWe := hW.e
 have hWl := hW.l
 have hWn2 := hW.n
 refine EvC.loopS (σ := Nat × List Int) (fun g => ⟨[(3, .ia m.cells), (6, .rf 0 0), (8, .ia t.cells), (25, .sl wn (W.map rwC) wc), (26, .sc (.int .i64 W.length)), (27, .sc (.int .i64 g.1))], [], [(0, .cells [.tl 1 g.2.length g.2.isEmpty]), (1, .arr 1 (g.2.map intC) true)], 2⟩) (fun g => W.length - g.1) (fun g => g.1 ≤ W.length ∧ killL m t W 0 = g.2 ++ killL m t (W.drop g.1) g.1 ∧ g.2.length ≤ g.1) [3, 6, 8, 25, 26, 27] 2 ?_ ?_
 ·exact ⟨[(0, 0), (1, 1)], (0, []), rfl, (by simp only [go_sem, Int.natCast_zero, List.map_nil, List.length_nil, List.isEmpty_nil, Mach.cells] <;> rfl), Nat.zero_le _, rfl, Nat.le_refl _⟩
 rintro ⟨i, L⟩ ⟨i1, i2, i3⟩
 simp only at i1 i2 i3 ⊢
 have hLn := norefs_intC L
 have hLl : (L.map intC).length = L.length := List.length_map _
 refine EvC.a ?_
 refine EvC.seq ?_
 refine EvC.cond (by simp only [go_sem] <;> rfl) (fun hc => ?_) (fun hc => ?_)
 rotate_left
 ·refine EvC.exit ?_
  obtain rfl : i = W.length := by have : ¬ i < W.length := (by simpa using hc); omega
  clear hc
  rw [List.drop_length, killL, List.append_nil] at i2
  rw [i2]
  generalize L.map intC = L1 at hLn hLl ⊢
  refine EvC.frzD 1 (by simp only [go_sem, hLn, hLl] <;> rfl) ?_
  refine EvC.a ?_
  refine EvC.rz ?_
  simp only [go_sem]
 have hil : i < W.length := by simpa using hc
 clear hc
 have hge := List.getElem?_eq_getElem hil
 have hwm := List.getElem_mem hil
 have hdr : W.drop i = W[i] :: W.drop (i + 1) := List.drop_eq_getElem_cons hil
 generalize W[i] = w at hge hwm hdr
 have hwg : (W.map rwC)[i]? = some [.sl w.1 (w.2.1.map intC) w.2.2] := by rw [List.getElem?_map, hge]; rfl
 have hit : (i : Int).toNat = i := Int.toNat_natCast i
 rw [hdr, killL] at i2
 have hmr := hv.rows
 have htr := hvt.rows
 have q1 := run52_is hv 0 (by omega) w.1 w.2.1 w.2.2 (hWe w hwm) (hWl w hwm)
 have q2 := run52_is hvt 0 (by omega) w.1 w.2.1 w.2.2 (by rw [hti]; exact hWe w hwm) (hWl w hwm)
 have hr1 : (runR m 0 w.2.1).length < 1000000 := by rw [runR_len]; exact hWl w hwm
 have q3 := equal53_is false false (runR m 0 w.2.1) (runR t 0 w.2.1) .unk .unk hr1
 rw [show m.cells = [.sc (.int .i64 m.ins), .sc (.int .i64 m.outs), .sl m.nl (m.rows.map rowC) .unk] from rfl] at q1
 rw [htc] at q2
 refine EvC.skip ?_
 refine EvC.seq ?_
 refine EvC.block ?_
 refine EvC.a ?_ (by simp only [go_sem, hwg, hit, List.length_map] <;> rfl) (by simp; try omega)
 refine EvC.k1 ?_ (h1 := by simp only [go_sem, Mach.cells] <;> rfl) (c1 := .ca q1)
 refine EvC.k1 ?_ (h1 := by simp only [go_sem, Mach.cells] <;> rfl) (c1 := .ca q2)
 refine EvC.k1 ?_ (c1 := .ca q3)
 by_cases he : runR m 0 w.2.1 = runR t 0 w.2.1
 ·rw [if_pos he] at i2
  refine EvC.cs ?_ (by simp only [go_sem, decide_eq_true he] <;> rfl)
  refine EvC.b ?_ (hok := by exact inI64_of (by omega) (by omega))
  exact ⟨[(0, 0), (1, 1)], (i + 1, L), rfl, (by simp only [go_sem, hLn, Mach.cells, Int.natCast_add, Int.natCast_one] <;> rfl), ⟨hil, i2, by simp only; omega⟩, by simp only; omega⟩
 ·rw [if_neg he] at i2
  refine EvC.ct ?_ (by simp only [go_sem, decide_eq_false he] <;> rfl)
  have hs : L.map intC ++ [[.sc (.int .i64 i)]] = (L ++ [(i : Int)]).map intC := by rw [List.map_append]; rfl
  have hl2 : L.length + 1 = (L ++ [(i : Int)]).length := by simp
  have hn2 : (L ++ [(i : Int)]).isEmpty = false := by simp
  have hr2 : room (L.length + 1) 8 = true := by simp only [room_eq, decide_eq_true_eq]; omega
  have hk : killL m t W 0 = (L ++ [(i : Int)]) ++ killL m t (W.drop (i + 1)) (i + 1) := by rw [i2]; simp
  have hLn2 := norefs_intC (L ++ [(i : Int)])
  have hLl2 : ((L ++ [(i : Int)]).map intC).length = (L ++ [(i : Int)]).length := List.length_map _
  have hle : (L ++ [(i : Int)]).length ≤ i + 1 := by simp; omega
  rw [hl2] at hr2
  generalize L ++ [(i : Int)] = L2 at hs hl2 hn2 hr2 hk hLn2 hLl2 hle
  obtain ⟨U, hU⟩ : ∃ U, U = L2.map intC := ⟨_, rfl⟩
  rw [← hU] at hs hLn2 hLl2
  refine EvC.b ?_ (by simp only [go_sem, hs, hl2, hLl] <;> rfl) (by simp [hr2])
  refine EvC.b ?_ (hok := by exact inI64_of (by omega) (by omega))
  exact ⟨[(0, 0), (1, 1)], (i + 1, L2), rfl, (by rw [hn2, ← hU]; simp only [go_sem, hLn2, hLl2, Mach.cells, Int.natCast_add, Int.natCast_one] <;> rfl), ⟨hil, hk, by simp only; omega⟩, by simp only; omega⟩
def sCmp : List Int → List Int → Int
 | [], [] => 0
 | [], _ :: _ => -1
 | _ :: _, [] => 1
 | x :: a, y :: b => if cmpJ x y ≠ 0 then cmpJ x y else sCmp a b
theorem sCmp_eq : ∀ {a b : List Int}, a.length = b.length → sCmp a b = cmpI a b
 | [], [], _ => rfl
 | [], _ :: _, h => by simp at h
 | _ :: _, [], h => by simp at h
 | x :: a, y :: b, h => by
   have ih := sCmp_eq (a := a) (b := b) (by simpa using h)
   rw [sCmp, cmpI, ih]
   unfold cmpJ
   by_cases h1 : x < y
   ·simp [h1]
   ·by_cases h2 : y < x
    ·simp [h1, h2]
    ·simp [h1, h2]
theorem sCompare_is (na : Bool) (a : List Int) (ca : Cp) (nb : Bool) (b : List Int) (cb : Cp) (ha : a.length < 1000000) :
  PureIs prog 131 [.sl na (a.map intC) ca, .sl nb (b.map intC) cb] (.sc (.int .i64 (sCmp a b))) := by
 have hal : (a.map intC).length = a.length := List.length_map _
 have hbl : (b.map intC).length = b.length := List.length_map _
 have hag : ∀ (i : Nat) (x : Int), a[i]? = some x → (a.map intC)[i]? = some [.sc (.int .i64 x)] := fun i x h => by rw [List.getElem?_map, h]; rfl
 have hbg : ∀ (i : Nat) (x : Int), b[i]? = some x → (b.map intC)[i]? = some [.sc (.int .i64 x)] := fun i x h => by rw [List.getElem?_map, h]; rfl
 generalize a.map intC = A at hal hag ⊢
 generalize b.map intC = B at hbl hbg ⊢
 refine PureIs.of1 2 [4, 5, 6, 7, 8, 9, 10, 11, 12, 19, 28, 35] func131 ntmps131 results131 fun _ => ?_
 refine EvC.a ?_
 refine EvC.seq ?_
 refine EvC.a ?_ (by simp only [go_sem, hal] <;> rfl)
 refine EvC.block ?_
 refine EvC.loopS (σ := Nat) (fun i => ⟨[(0, .sl na A ca), (1, .sl nb B cb), (9, .sl na A ca), (10, .sc (.int .i64 a.length)), (11, .sc (.int .i64 i))], [], [], 0⟩) (fun i => a.length - i) (fun i => i ≤ a.length ∧ i ≤ b.length ∧ sCmp a b = sCmp (a.drop i) (b.drop i)) [0, 1, 9, 10, 11] 0 ?_ ?_
 ·exact ⟨[], 0, rfl, (by simp only [go_sem, Int.natCast_zero] <;> rfl), Nat.zero_le _, Nat.zero_le _, rfl⟩
 rintro i ⟨i1, i2, i3⟩
 refine EvC.a ?_
 refine EvC.seq ?_
 by_cases hi : i < a.length
 rotate_left
 ·refine EvC.cf ?_ (by simp only [go_sem, decide_eq_false (show ¬ (i : Int) < a.length by omega)] <;> rfl)
  refine EvC.exit ?_
  rw [List.drop_of_length_le (l := a) (by omega)] at i3
  refine EvC.seq ?_
  refine EvC.a ?_ (by simp only [go_sem, hal, hbl] <;> rfl)
  by_cases hb : b.length = a.length
  ·rw [List.drop_of_length_le (by omega), sCmp] at i3
   refine EvC.cs ?_ (by simp only [go_sem, decide_eq_false (show ¬ (a.length : Int) < b.length by omega)] <;> rfl)
   rw [i3]
   refine EvC.a ?_
   refine EvC.rz ?_
   simp only [go_sem]
  ·rw [List.drop_eq_getElem_cons (show i < b.length by omega), sCmp] at i3
   refine EvC.ct ?_ (by simp only [go_sem, decide_eq_true (show (a.length : Int) < b.length by omega)] <;> rfl)
   rw [i3]
   refine EvC.a ?_
   refine EvC.rz ?_
   simp only [go_sem]
 have hge := List.getElem?_eq_getElem hi
 have hda : a.drop i = a[i] :: a.drop (i + 1) := List.drop_eq_getElem_cons hi
 generalize a[i] = x at hge hda
 rw [hda] at i3
 have hxg := hag i x hge
 have hit : (i : Int).toNat = i := Int.toNat_natCast i
 refine EvC.cr ?_ (by simp only [go_sem, decide_eq_true (show (i : Int) < a.length by omega)] <;> rfl)
 refine EvC.seq ?_
 refine EvC.block ?_
 refine EvC.a ?_ (by simp only [go_sem, hxg, hit, hal] <;> rfl) (by simp; try omega)
 refine EvC.seq ?_
 refine EvC.a ?_ (by simp only [go_sem, hbl] <;> rfl)
 by_cases hb : i < b.length
 rotate_left
 ·rw [List.drop_of_length_le (l := b) (by omega), sCmp] at i3
  refine EvC.ct ?_ (by simp only [go_sem, decide_eq_true (show (b.length : Int) ≤ i by omega)] <;> rfl)
  rw [i3]
  refine EvC.a ?_
  refine EvC.rz ?_
  simp only [go_sem]
 have hgb := List.getElem?_eq_getElem hb
 have hdb : b.drop i = b[i] :: b.drop (i + 1) := List.drop_eq_getElem_cons hb
 generalize b[i] = y at hgb hdb
 rw [hdb, sCmp] at i3
 have hyg := hbg i y hgb
 refine EvC.cs ?_ (by simp only [go_sem, decide_eq_false (show ¬ (b.length : Int) ≤ i by omega)] <;> rfl)
 refine EvC.a ?_ (by simp only [go_sem, hyg, hit, hbl] <;> rfl) (by simp; try omega)
 refine EvC.k1 ?_ (c1 := .ca (compareI_is x y))
 refine EvC.a ?_
 by_cases hc : cmpJ x y = 0
 ·rw [if_neg (fun h => h hc)] at i3
  refine EvC.cs ?_ (by simp only [go_sem, decide_eq_true hc] <;> rfl)
  refine EvC.b ?_ (hok := by exact inI64_of (by omega) (by omega))
  exact ⟨[], i + 1, rfl, (by simp only [go_sem, Int.natCast_add, Int.natCast_one] <;> rfl), ⟨hi, hb, i3⟩, by omega⟩
 ·rw [if_pos hc] at i3
  refine EvC.ct ?_ (by simp only [go_sem, decide_eq_false hc] <;> rfl)
  rw [i3]
  refine EvC.a ?_
  refine EvC.rz ?_
  simp only [go_sem]
theorem wCompare_is (na : Bool) (a : List Int) (ca : Cp) (nb : Bool) (b : List Int) (cb : Cp) (ha : a.length < 1000000) :
  PureIs prog 125 [.sl na (a.map intC) ca, .sl nb (b.map intC) cb] (.sc (.int .i64 (cmpL a b))) := by
 have q := orI_is false [cmpJ a.length b.length, sCmp a b] .full (by simp)
 simp only [List.map_cons, List.map_nil, intC] at q
 have hR : orR [cmpJ a.length b.length, sCmp a b] = cmpL a b := by
  simp only [orR, cmpL, cmpJ]
  by_cases h : a.length = b.length
  ·rw [sCmp_eq h, if_pos h]
   by_cases hz : cmpI a b = 0 <;> simp [h, hz]
  ·by_cases h2 : a.length < b.length
   ·simp [h, h2]
   ·simp [h, h2, show b.length < a.length by omega]
 rw [hR] at q
 refine PureIs.of1 2 [4] func125 ntmps125 results125 fun _ => ?_
 refine EvC.a ?_
 refine EvC.k3 ?_ (h1 := by simp only [go_sem, List.length_map] <;> rfl) (c1 := .ca (compareI_is a.length b.length)) (h2 := by simp only [go_sem, List.length_map] <;> rfl) (c2 := .ca (sCompare_is na a ca nb b cb ha)) (h3 := by simp only [go_sem, List.length_map] <;> rfl) (c3 := .ca q)
 refine EvC.rz ?_
 simp only [go_sem]
def stepsW (W : List RW) : Nat := (W.map fun w => w.2.1.length).sum
def aheadB : List RW → Bool
 | [] => true
 | [_] => true
 | a :: b :: l => decide (cmpL a.2.1 b.2.1 < 0) && aheadB (b :: l)
def errW (n : Int) : List RW → Int
 | [] => 0
 | w :: W => if wordErr n w.2.1 ≠ 0 then wordErr n w.2.1 else errW n W
def looseE (n : Int) (W : List RW) : Int := if 16 < n ∨ 4096 < (W.length : Int) then 3 else if n < 1 then 1 else errW n W
def triesE (n : Int) (W : List RW) : Int := if looseE n W ≠ 0 then looseE n W else if aheadB W = false then 1 else if 65536 < (stepsW W : Int) then 3 else 0
def readyE (m : Mach) (W : List RW) : Int := if checkM m ≠ 0 then checkM m else triesE m.ins W
theorem rw_get {W : List RW} {i : Nat} {w : RW} (h : W[i]? = some w) : (W.map rwC)[i]? = some [.sl w.1 (w.2.1.map intC) w.2.2] := by rw [List.getElem?_map, h]; rfl
theorem loose_is (wn : Bool) (W : List RW) (wc : Cp) (n : Int) (hW : ∀ w ∈ W, w.2.1.length < 1000000) (hWl : W.length < 1000000) :
  PureIs prog 108 [.sl wn (W.map rwC) wc, .sc (.int .i64 n)] (.sc (.int .i64 (looseE n W))) := by
 have hWn := norefs_rw W
 have hl : (W.map rwC).length = W.length := List.length_map _
 refine PureIs.of1 2 [4, 6, 7, 14, 16, 17, 18, 19, 20, 27] func108 ntmps108 results108 fun _ => ?_
 refine EvC.a ?_
 refine EvC.seq ?_
 by_cases c1 : 16 < n
 ·rw [show looseE n W = 3 by unfold looseE; rw [if_pos (.inl c1)]]
  refine EvC.g ?_ (h := by simp only [go_sem, decide_eq_true c1, hl] <;> rfl)
  refine EvC.ct ?_
  refine EvC.a ?_
  refine EvC.rz ?_
  simp only [go_sem]
 by_cases c2 : 4096 < (W.length : Int)
 ·rw [show looseE n W = 3 by unfold looseE; rw [if_pos (.inr c2)]]
  refine EvC.g ?_ (h := by simp only [go_sem, decide_eq_false c1, decide_eq_true c2, hl] <;> rfl)
  refine EvC.ct ?_
  refine EvC.a ?_
  refine EvC.rz ?_
  simp only [go_sem]
 refine EvC.g ?_ (h := by simp only [go_sem, decide_eq_false c1, decide_eq_false c2, hl] <;> rfl)
 refine EvC.cs ?_
 refine EvC.seq ?_
 refine EvC.a ?_
 by_cases c3 : n < 1
 ·rw [show looseE n W = 1 by unfold looseE; rw [if_neg (fun h => h.elim c1 c2), if_pos c3]]
  refine EvC.ct ?_ (by simp only [go_sem, decide_eq_true c3] <;> rfl)
  refine EvC.a ?_
  refine EvC.rz ?_
  simp only [go_sem]
 rw [show looseE n W = errW n W by unfold looseE; rw [if_neg (fun h => h.elim c1 c2), if_neg c3]]
 refine EvC.cs ?_ (by simp only [go_sem, decide_eq_false c3] <;> rfl)
 refine EvC.seq ?_
 refine EvC.a ?_ (by simp only [go_sem, hl] <;> rfl)
 refine EvC.block ?_
 refine EvC.loopS (σ := Nat) (fun i => ⟨[(1, .sc (.int .i64 n)), (17, .sl wn (W.map rwC) wc), (18, .sc (.int .i64 W.length)), (19, .sc (.int .i64 i))], [], [], 0⟩) (fun i => W.length - i) (fun i => i ≤ W.length ∧ errW n W = errW n (W.drop i)) [1, 17, 18, 19] 0 ?_ ?_
 ·exact ⟨[], 0, rfl, (by simp only [go_sem, Int.natCast_zero] <;> rfl), Nat.zero_le _, rfl⟩
 rintro i ⟨i1, i2⟩
 refine EvC.a ?_
 refine EvC.seq ?_
 refine EvC.cond (by simp only [go_sem] <;> rfl) (fun hc => ?_) (fun hc => ?_)
 rotate_left
 ·refine EvC.exit ?_
  have hi : ¬ i < W.length := by simpa using hc
  rw [List.drop_of_length_le (by omega), errW] at i2
  rw [i2]
  refine EvC.a ?_
  refine EvC.rz ?_
  simp only [go_sem]
 have hil : i < W.length := by simpa using hc
 clear hc
 have hge := List.getElem?_eq_getElem hil
 have hwm := List.getElem_mem hil
 have hdr : W.drop i = W[i] :: W.drop (i + 1) := List.drop_eq_getElem_cons hil
 generalize W[i] = w at hge hwm hdr
 have hwg := rw_get hge
 have hit : (i : Int).toNat = i := Int.toNat_natCast i
 rw [hdr, errW] at i2
 refine EvC.skip ?_
 refine EvC.seq ?_
 refine EvC.block ?_
 refine EvC.a ?_ (by simp only [go_sem, hwg, hit, hl] <;> rfl) (by simp; try omega)
 refine EvC.k1 ?_ (c1 := .ca (wordCheck_is w.1 w.2.1 w.2.2 n (hW w hwm)))
 refine EvC.a ?_
 by_cases he : wordErr n w.2.1 = 0
 ·rw [if_neg (fun h => h he)] at i2
  refine EvC.cs ?_ (by simp only [go_sem, decide_eq_true he] <;> rfl)
  refine EvC.b ?_ (hok := by exact inI64_of (by omega) (by omega))
  exact ⟨[], i + 1, rfl, (by simp only [go_sem, Int.natCast_add, Int.natCast_one] <;> rfl), ⟨hil, i2⟩, by omega⟩
 ·rw [if_pos he] at i2
  refine EvC.ct ?_ (by simp only [go_sem, decide_eq_false he] <;> rfl)
  rw [i2]
  refine EvC.a ?_
  refine EvC.rz ?_
  simp only [go_sem]
theorem aheadB_drop {W : List RW} {i : Nat} (h : i + 1 < W.length) : aheadB (W.drop i) = (decide (cmpL (W[i]'(by omega)).2.1 (W[i + 1]).2.1 < 0) && aheadB (W.drop (i + 1))) := by
 rw [List.drop_eq_getElem_cons (show i < W.length by omega), List.drop_eq_getElem_cons h, aheadB]
theorem ahead_is (wn : Bool) (W : List RW) (wc : Cp) (hW : ∀ w ∈ W, w.2.1.length < 1000000) (hWl : W.length < 1000000) :
  PureIs prog 109 [.sl wn (W.map rwC) wc] (.sc (.bool (aheadB W))) := by
 have hWn := norefs_rw W
 have hl : (W.map rwC).length = W.length := List.length_map _
 refine PureIs.of1 1 [2, 3, 7, 20] func109 ntmps109 results109 fun _ => ?_
 refine EvC.a ?_
 refine EvC.seq ?_
 refine EvC.a ?_
 refine EvC.block ?_
 refine EvC.loopS (σ := Nat) (fun i => ⟨[(0, .sl wn (W.map rwC) wc), (3, .sc (.int .i64 ((i + 1 : Nat) : Int)))], [], [], 0⟩) (fun i => W.length - i) (fun i => (i < W.length ∨ i = 0) ∧ aheadB W = aheadB (W.drop i)) [0, 3] 0 ?_ ?_
 ·exact ⟨[], 0, rfl, (by simp only [go_sem, show ((0 + 1 : Nat) : Int) = 1 from rfl] <;> rfl), .inr rfl, rfl⟩
 rintro i ⟨i1, i2⟩
 obtain ⟨iZ, hiZ⟩ : ∃ z : Int, z = ((i + 1 : Nat) : Int) := ⟨_, rfl⟩
 rw [← hiZ]
 refine EvC.seq ?_
 refine EvC.a ?_ (by simp only [go_sem, hl] <;> rfl)
 by_cases hil : i + 1 < W.length
 rotate_left
 ·refine EvC.cf ?_ (by simp only [go_sem, decide_eq_false (show ¬ iZ < (W.length : Int) by omega)] <;> rfl)
  refine EvC.exit ?_
  have : aheadB (W.drop i) = true := by
   have hd : (W.drop i).length ≤ 1 := by rw [List.length_drop]; omega
   match W.drop i, hd with
   | [], _ => rfl
   | [_], _ => rfl
  rw [i2, this]
  refine EvC.a ?_
  refine EvC.rz ?_
  simp only [go_sem]
 rw [aheadB_drop hil] at i2
 have hga := List.getElem?_eq_getElem (show i < W.length by omega)
 have hgb := List.getElem?_eq_getElem hil
 have ham := hW _ (List.getElem_mem (show i < W.length by omega))
 generalize W[i]'(by omega) = a at hga i2 ham
 generalize W[i + 1] = b at hgb i2
 have hag := rw_get hga
 have hbg := rw_get hgb
 have h1 : (iZ - 1).toNat = i := by omega
 have h2 : iZ.toNat = i + 1 := by omega
 have hI : inI64 (iZ - 1) = true := inI64_of (by omega) (by omega)
 have hb : 1 ≤ iZ ∧ i < W.length ∧ 0 ≤ iZ := by omega
 have q := wCompare_is a.1 a.2.1 a.2.2 b.1 b.2.1 b.2.2 ham
 refine EvC.cr ?_ (by simp only [go_sem, decide_eq_true (show iZ < (W.length : Int) by omega)] <;> rfl)
 refine EvC.seq ?_
 refine EvC.block ?_
 refine EvC.k1D mixed ?_ (h1 := by simp only [go_sem, hag, hbg, h1, h2, hl] <;> rfl) (k1 := by simp [hI, hb, hil]; try omega) (c1 := .ca q) (h2 := by simp only [go_sem, hWn] <;> rfl)
 by_cases hc : cmpL a.2.1 b.2.1 < 0
 ·rw [decide_eq_true hc, Bool.true_and] at i2
  refine EvC.cs ?_ (by simp only [go_sem, decide_eq_false (show ¬ 0 ≤ cmpL a.2.1 b.2.1 by omega)] <;> rfl)
  refine EvC.b ?_ (hok := by exact inI64_of (by omega) (by omega))
  exact ⟨[], i + 1, rfl, (by rw [show ((i + 1 + 1 : Nat) : Int) = iZ + 1 by omega]; simp only [go_sem] <;> rfl), ⟨.inl hil, i2⟩, by omega⟩
 ·rw [decide_eq_false hc, Bool.false_and] at i2
  refine EvC.ct ?_ (by simp only [go_sem, decide_eq_true (show 0 ≤ cmpL a.2.1 b.2.1 by omega)] <;> rfl)
  rw [i2]
  refine EvC.a ?_
  refine EvC.rz ?_
  simp only [go_sem]
theorem steps_is (wn : Bool) (W : List RW) (wc : Cp) (hW : ∀ w ∈ W, w.2.1.length < 1000000) (hWl : W.length < 1000000) :
  PureIs prog 110 [.sl wn (W.map rwC) wc] (.sc (.int .i64 (stepsW W))) := by
 have hl : (W.map rwC).length = W.length := List.length_map _
 refine PureIs.of1 1 [2, 4, 5, 6, 7, 8] func110 ntmps110 results110 fun _ => ?_
 refine EvC.a ?_
 refine EvC.seq ?_
 refine EvC.a ?_ (by simp only [go_sem, hl] <;> rfl)
 refine EvC.block ?_
 refine EvC.loopS (σ := Nat × Nat) (fun g => ⟨[(2, .sc (.int .i64 g.2)), (5, .sl wn (W.map rwC) wc), (6, .sc (.int .i64 W.length)), (7, .sc (.int .i64 g.1))], [], [], 0⟩) (fun g => W.length - g.1) (fun g => g.1 ≤ W.length ∧ stepsW W = g.2 + stepsW (W.drop g.1) ∧ g.2 ≤ g.1 * 1000000) [2, 5, 6, 7] 0 ?_ ?_
 ·exact ⟨[], (0, 0), rfl, (by simp only [go_sem, Int.natCast_zero] <;> rfl), Nat.zero_le _, by simp only [Nat.zero_add]; rfl, Nat.le_refl _⟩
 rintro ⟨i, s⟩ ⟨i1, i2, i3⟩
 simp only at i1 i2 i3 ⊢
 refine EvC.a ?_
 refine EvC.seq ?_
 refine EvC.cond (by simp only [go_sem] <;> rfl) (fun hc => ?_) (fun hc => ?_)
 rotate_left
 ·refine EvC.exit ?_
  have hi : ¬ i < W.length := by simpa using hc
  rw [List.drop_of_length_le (by omega), show stepsW [] = 0 from rfl, Nat.add_zero] at i2
  rw [i2]
  refine EvC.a ?_
  refine EvC.rz ?_
  simp only [go_sem]
 have hil : i < W.length := by simpa using hc
 clear hc
 have hge := List.getElem?_eq_getElem hil
 have hwm := hW _ (List.getElem_mem hil)
 have hdr : W.drop i = W[i] :: W.drop (i + 1) := List.drop_eq_getElem_cons hil
 generalize W[i] = w at hge hwm hdr
 have hwg := rw_get hge
 have hit : (i : Int).toNat = i := Int.toNat_natCast i
 have i4 : stepsW W = (s + w.2.1.length) + stepsW (W.drop (i + 1)) := by rw [i2, hdr]; simp only [stepsW, List.map_cons, List.sum_cons]; omega
 have hI : inI64 ((s : Int) + w.2.1.length) = true := inI64_of (by omega) (by omega)
 refine EvC.skip ?_
 refine EvC.seq ?_
 refine EvC.block ?_
 refine EvC.a ?_ (by simp only [go_sem, hwg, hit, hl] <;> rfl) (by simp; try omega)
 refine EvC.b ?_ (by simp only [go_sem, List.length_map] <;> rfl) (by simp [hI])
 refine EvC.b ?_ (hok := by exact inI64_of (by omega) (by omega))
 exact ⟨[], (i + 1, s + w.2.1.length), rfl, (by simp only [go_sem, Int.natCast_add, Int.natCast_one] <;> rfl), ⟨hil, i4, by simp only; omega⟩, by simp only; omega⟩
theorem tries_is (wn : Bool) (W : List RW) (wc : Cp) (n : Int) (hW : ∀ w ∈ W, w.2.1.length < 1000000) (hWl : W.length < 1000000) :
  PureIs prog 88 [.sl wn (W.map rwC) wc, .sc (.int .i64 n)] (.sc (.int .i64 (triesE n W))) := by
 have hWn := norefs_rw W
 refine PureIs.of1 2 [4, 5, 10, 14, 17] func88 ntmps88 results88 fun _ => ?_
 refine EvC.a ?_
 refine EvC.seq ?_
 refine EvC.k1 ?_ (c1 := .ca (loose_is wn W wc n hW hWl)) (h2 := by simp only [go_sem, hWn] <;> rfl)
 refine EvC.a ?_
 by_cases h1 : looseE n W = 0
 rotate_left
 ·rw [show triesE n W = looseE n W by unfold triesE; rw [if_pos h1]]
  refine EvC.ct ?_ (by simp only [go_sem, decide_eq_false h1] <;> rfl)
  refine EvC.a ?_
  refine EvC.rz ?_
  simp only [go_sem]
 refine EvC.cs ?_ (by simp only [go_sem, decide_eq_true h1] <;> rfl)
 refine EvC.seq ?_
 refine EvC.k1 ?_ (c1 := .ca (ahead_is wn W wc hW hWl)) (h2 := by simp only [go_sem, hWn] <;> rfl)
 cases h2 : aheadB W with
 | false =>
   rw [show triesE n W = 1 by unfold triesE; rw [if_neg (fun h => h h1), if_pos h2]]
   refine EvC.ct ?_ (by simp only [go_sem, h2] <;> rfl)
   refine EvC.a ?_
   refine EvC.rz ?_
   simp only [go_sem]
 | true =>
   refine EvC.cs ?_ (by simp only [go_sem, h2] <;> rfl)
   refine EvC.seq ?_
   refine EvC.k1 ?_ (c1 := .ca (steps_is wn W wc hW hWl)) (h2 := by simp only [go_sem, hWn] <;> rfl)
   by_cases h3 : 65536 < (stepsW W : Int)
   ·rw [show triesE n W = 3 by unfold triesE; rw [if_neg (fun h => h h1), if_neg (by rw [h2]; simp), if_pos h3]]
    refine EvC.ct ?_ (by simp only [go_sem, decide_eq_true h3] <;> rfl)
    refine EvC.a ?_
    refine EvC.rz ?_
    simp only [go_sem]
   rw [show triesE n W = 0 by unfold triesE; rw [if_neg (fun h => h h1), if_neg (by rw [h2]; simp), if_neg h3]]
   refine EvC.cs ?_ (by simp only [go_sem, decide_eq_false h3] <;> rfl)
   refine EvC.a ?_
   refine EvC.rz ?_
   simp only [go_sem]
theorem ready60_is (m : Mach) (hm : ∀ r ∈ m.rows, r.2.length < 1000000) (wn : Bool) (W : List RW) (wc : Cp) (hW : ∀ w ∈ W, w.2.1.length < 1000000) (hWl : W.length < 1000000) :
  PureIs prog 60 [.ag m.cells, .sl wn (W.map rwC) wc] (.sc (.int .i64 (readyE m W))) := by
 have hWn := norefs_rw W
 refine PureIs.of1 3 [4, 5, 9] func60 ntmps60 results60 fun _ => ?_
 refine EvC.a ?_ (by simp only [go_sem, Mach.cells] <;> rfl)
 refine EvC.z 0 ?_
 refine EvC.seq ?_
 refine EvC.k1 ?_ (h1 := by simp only [go_sem, Mach.cells] <;> rfl) (c1 := .ca (check_is m hm))
 refine EvC.a ?_
 by_cases h1 : checkM m = 0
 rotate_left
 ·rw [show readyE m W = checkM m by unfold readyE; rw [if_pos h1]]
  refine EvC.ct ?_ (by simp only [go_sem, decide_eq_false h1] <;> rfl)
  refine EvC.a ?_
  refine EvC.rz ?_
  simp only [go_sem]
 rw [show readyE m W = triesE m.ins W by unfold readyE; rw [if_neg (fun h => h h1)]]
 refine EvC.cs ?_ (by simp only [go_sem, decide_eq_true h1] <;> rfl)
 refine EvC.k1 ?_ (c1 := .ca (tries_is wn W wc m.ins hW hWl)) (h2 := by simp only [go_sem, hWn] <;> rfl)
 refine EvC.rz ?_
 simp only [go_sem]
theorem errW_zero {n : Int} : ∀ {W : List RW}, errW n W = 0 → ∀ w ∈ W, wordErr n w.2.1 = 0
 | [], _, _, h => by cases h
 | v :: W, h, w, hw => by
   rw [errW] at h
   split at h
   ·rename_i h1; exact absurd h h1
   ·rename_i h1
    rcases List.mem_cons.1 hw with rfl | hw
    ·exact Classical.not_not.1 h1
    ·exact errW_zero h w hw
theorem readyE_ok {m : Mach} {W : List RW} (h : readyE m W = 0) : checkM m = 0 ∧ W.length ≤ 4096 ∧ ∀ w ∈ W, wordErr m.ins w.2.1 = 0 := by
 unfold readyE at h
 split at h
 ·rename_i h1; exact absurd h h1
 rename_i h1
 unfold triesE at h
 split at h
 ·rename_i h2; exact absurd h h2
 rename_i h2
 have h2 := Classical.not_not.1 h2
 unfold looseE at h2
 split at h2
 ·cases h2
 rename_i h3
 split at h2
 ·cases h2
 exact ⟨Classical.not_not.1 h1, by omega, errW_zero h2⟩
def killW (m : Mach) (W : List RW) (f : FA) : List Int := killL m (mutF m f) W 0
def subE (m : Mach) (W : List RW) (f g : FA) : Int := if readyE m W ≠ 0 then readyE m W else if checkF m f ≠ 0 then checkF m f else checkF m g
def subV (m : Mach) (W : List RW) (f g : FA) : Bool := decide ((0 : Int) < (killW m W f).length) && subB (killW m W f) (killW m W g)
def subsumesA (m : Mach) (W : List RW) (f g : FA) : AV :=
 if subE m W f g ≠ 0 then .tu [.sc (.bool false), .sc (.int .i64 (subE m W f g))] else .tu [.sc (.bool (subV m W f g)), .sc (.int .i64 0)]
set_option maxHeartbeats 4000000 in
theorem subsumes_is (m : Mach) (hm : ∀ r ∈ m.rows, r.2.length < 1000000) (hnn : NoNil m) (wn : Bool) (W : List RW) (wc : Cp) (hW : ∀ w ∈ W, w.2.1.length < 1000000) (hWl : W.length < 1000000) (f g : FA) :
  PureIs prog 38 [.ag m.cells, .sl wn (W.map rwC) wc, .ag f.cells, .ag g.cells] (subsumesA m W f g) := by
 have hWn := norefs_rw W
 have q0 := ready60_is m hm wn W wc hW hWl
 unfold subsumesA
 generalize hE : subE m W f g = E
 have hE := hE.symm
 unfold subE at hE
 have hfc : f.cells = [.sc (.int .i64 f.kind), .sc (.int .i64 f.state), .sc (.int .i64 f.input), .sc (.int .i64 f.to), .sc (.int .i64 f.at'), .sc (.int .i64 f.out)] := rfl
 have hgc : g.cells = [.sc (.int .i64 g.kind), .sc (.int .i64 g.state), .sc (.int .i64 g.input), .sc (.int .i64 g.to), .sc (.int .i64 g.at'), .sc (.int .i64 g.out)] := rfl
 by_cases h0 : readyE m W = 0
 rotate_left
 ·rw [if_pos h0] at hE
  rw [hE, if_pos h0, hfc, hgc]
  refine PureIs.of1 5 [6, 7, 8, 9, 10, 11, 12, 13, 18, 28, 38] func38 ntmps38 results38 fun _ => ?_
  refine EvC.a ?_ (by simp only [go_sem, Mach.cells] <;> rfl)
  refine EvC.z 0 ?_
  refine EvC.z 1 ?_
  refine EvC.z 2 ?_
  refine EvC.seq ?_
  refine EvC.k1 ?_ (h1 := by simp only [go_sem, Mach.cells] <;> rfl) (c1 := .ca q0) (h2 := by simp only [go_sem, hWn] <;> rfl)
  refine EvC.a ?_
  refine EvC.ct ?_ (by simp only [go_sem, decide_eq_false h0] <;> rfl)
  refine EvC.a ?_
  refine EvC.rz ?_
  simp only [go_sem]
 rw [if_neg (fun h => h h0)] at hE
 obtain ⟨hc0, _, hWe⟩ := readyE_ok h0
 have hv := Valid.of hc0
 have q1 := killers_is hv hnn wn W wc ⟨hWe, hW, hWl⟩ f
 have q2 := killers_is hv hnn wn W wc ⟨hWe, hW, hWl⟩ g
 unfold killersA at q1 q2
 have hl1 := killL_len m (mutF m f) W 0
 have hl2 := killL_len m (mutF m g) W 0
 rw [hfc] at q1 ⊢
 rw [hgc] at q2 ⊢
 rw [h0] at q0
 refine PureIs.of1 5 [6, 7, 8, 9, 10, 11, 12, 13, 18, 28, 38] func38 ntmps38 results38 fun _ => ?_
 refine EvC.a ?_ (by simp only [go_sem, Mach.cells] <;> rfl)
 refine EvC.z 0 ?_
 refine EvC.z 1 ?_
 refine EvC.z 2 ?_
 refine EvC.seq ?_
 refine EvC.k1 ?_ (h1 := by simp only [go_sem, Mach.cells] <;> rfl) (c1 := .ca q0) (h2 := by simp only [go_sem, hWn] <;> rfl)
 refine EvC.a ?_
 refine EvC.cs ?_
 by_cases h1 : checkF m f = 0
 rotate_left
 ·rw [if_pos h1] at hE q1
  rw [hE, if_pos h1]
  refine EvC.k1 ?_ (h1 := by simp only [go_sem, Mach.cells] <;> rfl) (c1 := .ca q1) (h2 := by simp only [go_sem, hWn] <;> rfl)
  refine EvC.seq ?_
  refine EvC.a ?_
  refine EvC.ct ?_ (by simp only [go_sem, decide_eq_false h1] <;> rfl)
  refine EvC.a ?_
  refine EvC.rz ?_
  simp only [go_sem]
 rw [if_neg (fun h => h h1)] at hE q1
 obtain ⟨K1, hK1⟩ : ∃ K, K = killL m (mutF m f) W 0 := ⟨_, rfl⟩
 rw [← hK1] at q1 hl1
 have hn1 := norefs_intC K1
 refine EvC.k1 ?_ (h1 := by simp only [go_sem, Mach.cells] <;> rfl) (c1 := .ca q1) (h2 := by simp only [go_sem, hn1] <;> rfl)
 refine EvC.z 18 ?_
 refine EvC.seq ?_
 refine EvC.a ?_
 refine EvC.cs ?_
 by_cases h2 : checkF m g = 0
 rotate_left
 ·rw [if_pos h2] at q2
  rw [hE, if_pos h2]
  refine EvC.k1 ?_ (h1 := by simp only [go_sem, Mach.cells] <;> rfl) (c1 := .ca q2) (h2 := by simp only [go_sem, hWn] <;> rfl)
  refine EvC.seq ?_
  refine EvC.a ?_
  refine EvC.ct ?_ (by simp only [go_sem, decide_eq_false h2] <;> rfl)
  refine EvC.a ?_
  refine EvC.rz ?_
  simp only [go_sem]
 rw [h2] at hE
 rw [if_neg (fun h => h h2)] at q2
 obtain ⟨K2, hK2⟩ : ∃ K, K = killL m (mutF m g) W 0 := ⟨_, rfl⟩
 rw [← hK2] at q2 hl2
 have hn2 := norefs_intC K2
 rw [hE, if_neg (show ¬ (0 : Int) ≠ 0 from fun h => h rfl), subV, killW, killW, ← hK1, ← hK2]
 refine EvC.k1 ?_ (h1 := by simp only [go_sem, Mach.cells] <;> rfl) (c1 := .ca q2) (h2 := by simp only [go_sem, hn2] <;> rfl)
 refine EvC.z 30 ?_
 refine EvC.seq ?_
 refine EvC.a ?_
 refine EvC.cs ?_
 have hkl : (K1.map intC).length = K1.length := List.length_map _
 by_cases hp : (0 : Int) < K1.length
 ·rw [decide_eq_true hp]
  have q3 := within63_is K1.isEmpty K1 .unk K2.isEmpty K2 .unk (by omega) (by omega)
  refine EvC.k1 ?_ (h1 := by simp only [go_sem, hkl, decide_eq_true hp] <;> rfl) (c1 := .cg q3) (h2 := by simp only [go_sem, hkl, decide_eq_true hp, hn1, hn2] <;> rfl)
  refine EvC.rz ?_
  simp only [go_sem]
 ·rw [decide_eq_false hp]
  apply EvC.s1
  ·apply Tr.run
   ·simp only [go_sem, hkl, decide_eq_false hp] <;> rfl
   ·simp
   apply Tr.cons
   ·exact .skipv (.sc (.bool false)) rfl rfl (by simp only [go_sem] <;> rfl) (by simp only [go_sem] <;> rfl)
   apply Tr.done
   ·simp only [go_sem, hkl, decide_eq_false hp, hn1, hn2] <;> rfl
   ·simp
  refine EvC.rz ?_
  simp only [go_sem]
def badB (S : List (List Int)) (i k : Nat) : Bool :=
 !decide (k = i) && (decide ((0 : Int) < (S.getD k []).length) && (subB (S.getD k []) (S.getD i []) && (decide (k < i) || !subB (S.getD i []) (S.getD k []))))
def keepB (S : List (List Int)) (i : Nat) : Bool := !decide ((S.getD i []).length = 0) && !((List.range S.length).any (badB S i))
def leastL (S : List (List Int)) : List Int := ((List.range S.length).filter (keepB S)).map fun i : Nat => (i : Int)
def leastE (m : Mach) (W : List RW) (fs : List FA) : Int := if readyE m W ≠ 0 then readyE m W else mutErr m fs
def leastA (m : Mach) (W : List RW) (fs : List FA) : AV :=
 if leastE m W fs ≠ 0 then .tu [.sl true [] .unk, .sc (.int .i64 (leastE m W fs))] else .tu [.sl (leastL (fs.map (killW m W))).isEmpty ((leastL (fs.map (killW m W))).map intC) .full, .sc (.int .i64 0)]
def setC (S : List Int) : List AV := [.sl S.isEmpty (S.map intC) .unk]
theorem norefs_sets (l : List (List Int)) : (l.map setC).all AV.norefs = true := by simp [List.all_eq_true, setC, AV.norefs, AV.noref]
def leastTo (S : List (List Int)) (i : Nat) : List Int := ((List.range i).filter (keepB S)).map fun i : Nat => (i : Int)
theorem leastTo_succ (S : List (List Int)) (i : Nat) : leastTo S (i + 1) = leastTo S i ++ if keepB S i = true then [(i : Int)] else [] := by
 unfold leastTo
 rw [List.range_succ, List.filter_append, List.map_append]
 congr 1
 by_cases h : keepB S i = true
 ·rw [if_pos h, List.filter_cons_of_pos h]; rfl
 ·rw [if_neg h, List.filter_cons_of_neg h]; rfl
theorem leastTo_len (S : List (List Int)) (i : Nat) : (leastTo S i).length ≤ i := by
 unfold leastTo
 rw [List.length_map]
 have := List.length_filter_le (keepB S) (List.range i)
 rw [List.length_range] at this
 exact this
set_option maxHeartbeats 8000000 in
theorem least_is (m : Mach) (hm : ∀ r ∈ m.rows, r.2.length < 1000000) (hnn : NoNil m) (wn : Bool) (W : List RW) (wc : Cp) (hW : ∀ w ∈ W, w.2.1.length < 1000000) (hWl : W.length < 1000000) (fn : Bool) (fs : List FA) (fc : Cp) (hfl : fs.length < 1000000) :
  PureIs prog 26 [.ag m.cells, .sl wn (W.map rwC) wc, .sl fn (fs.map FA.cells) fc] (leastA m W fs) := by
 have hWn := norefs_rw W
 have q0 := ready60_is m hm wn W wc hW hWl
 have q1 := check61_is m hm fn fs fc hfl
 have hFn := fas_norefs2 fs
 unfold leastA
 generalize hE : leastE m W fs = E
 have hE := hE.symm
 unfold leastE at hE
 refine PureIs.of1 4 [6, 7, 8, 9, 10, 12, 13, 15, 16, 17, 18, 19, 20, 25, 31, 33, 34, 35, 36, 51, 52, 53, 54, 61, 62, 63, 64, 65, 95] func26 ntmps26 results26 fun _ => ?_
 refine EvC.a ?_ (by simp only [go_sem, Mach.cells] <;> rfl)
 refine EvC.z 0 ?_
 refine EvC.scope ?_
 refine EvC.seq ?_
 refine EvC.k1 ?_ (h1 := by simp only [go_sem, Mach.cells] <;> rfl) (c1 := .ca q0) (h2 := by simp only [go_sem, hWn] <;> rfl)
 refine EvC.a ?_
 by_cases h0 : readyE m W = 0
 rotate_left
 ·rw [if_pos h0] at hE
  rw [hE, if_pos h0]
  refine EvC.ct ?_ (by simp only [go_sem, decide_eq_false h0] <;> rfl)
  refine EvC.a ?_
  refine EvC.rz ?_
  simp only [go_sem]
 rw [if_neg (fun h => h h0)] at hE
 refine EvC.cs ?_ (by simp only [go_sem, decide_eq_true h0] <;> rfl)
 refine EvC.seq ?_
 refine EvC.k1 ?_ (h1 := by simp only [go_sem, Mach.cells] <;> rfl) (c1 := .ca q1) (h2 := by simp only [go_sem, hFn] <;> rfl)
 refine EvC.a ?_
 by_cases h1 : mutErr m fs = 0
 rotate_left
 ·rw [hE, if_pos h1]
  refine EvC.ct ?_ (by simp only [go_sem, decide_eq_false h1] <;> rfl)
  refine EvC.a ?_
  refine EvC.rz ?_
  simp only [go_sem]
 rw [h1] at hE
 rw [hE, if_neg (show ¬ (0 : Int) ≠ 0 from fun h => h rfl)]
 refine EvC.cs ?_ (by simp only [go_sem, decide_eq_true h1] <;> rfl)
 obtain ⟨hc0, _, hWe⟩ := readyE_ok h0
 have hv := Valid.of hc0
 obtain ⟨_, hf2, hf3⟩ := mutErr_ok h1
 have hfz := errFs_zero hf3
 have qk := fun f => killers_is hv hnn wn W wc ⟨hWe, hW, hWl⟩ f
 have hkl := fun f => killL_len m (mutF m f) W 0
 refine EvC.a ?_
 refine EvC.seq ?_
 refine EvC.a ?_ (by simp only [go_sem, List.length_map] <;> rfl)
 refine EvC.block ?_
 obtain ⟨N, hN⟩ : ∃ N, N = fs.length := ⟨_, rfl⟩
 obtain ⟨S, hS⟩ : ∃ S, S = fs.map (killW m W) := ⟨_, rfl⟩
 have hSl : S.length = N := by rw [hS, List.length_map, hN]
 have hSb : ∀ s ∈ S, s.length < 1000000 := fun s hs => by
  rw [hS] at hs
  obtain ⟨f, _, rfl⟩ := List.mem_map.1 hs
  have := hkl f
  unfold killW; omega
 rw [← hN] at hf2 ⊢
 rw [← hS]
 refine EvC.loopS (σ := Nat) (fun i => ⟨[(1, .sl wn (W.map rwC) wc), (3, .ia m.cells), (10, .tl 0 i (i == 0)), (33, .sl fn (fs.map FA.cells) fc), (34, .sc (.int .i64 N)), (35, .sc (.int .i64 i))], [], [(0, .arr 1 ((S.take i).map setC) true)], 1⟩) (fun i => N - i) (fun i => i ≤ N) [1, 3, 10, 33, 34, 35] 1 ?_ ?_
 ·exact ⟨[(15, 0)], 0, rfl, (by simp only [go_sem, Int.natCast_zero, List.take_zero, List.map_nil, Mach.cells] <;> rfl), Nat.zero_le _⟩
 intro i hi
 have hLn := norefs_sets (S.take i)
 have hLl : ((S.take i).map setC).length = i := by rw [List.length_map, List.length_take]; omega
 refine EvC.a ?_
 refine EvC.seq ?_
 refine EvC.cond (by simp only [go_sem] <;> rfl) (fun hc => ?_) (fun hc => ?_)
 rotate_left
 ·refine EvC.exit ?_
  obtain rfl : i = N := by have : ¬ i < N := (by simpa using hc); omega
  clear hc
  rw [List.take_of_length_le (by omega)] at hLn hLl ⊢
  have hSg : ∀ (k : Nat), k < i → (S.map setC)[k]? = some [.sl (S.getD k []).isEmpty ((S.getD k []).map intC) .unk] := fun k hk => by
   rw [List.getElem?_map, List.getElem?_eq_getElem (by omega), List.getD_eq_getElem?_getD, List.getElem?_eq_getElem (by omega)]; rfl
  have hSb2 : ∀ k, k < i → (S.getD k []).length < 1000000 := fun k hk => hSb _ (by
   rw [List.getD_eq_getElem?_getD, List.getElem?_eq_getElem (by omega)]; exact List.getElem_mem _)
  generalize S.map setC = SC at hLn hLl hSg ⊢
  refine EvC.frz 0 (by simp only [go_sem, hLn, hLl] <;> rfl) ?_
  refine EvC.a ?_
  refine EvC.a ?_
  refine EvC.seq ?_
  refine EvC.label ?_
  refine EvC.seq ?_
  refine EvC.a ?_ (by simp only [go_sem, hLl] <;> rfl)
  refine EvC.block ?_
  obtain ⟨N, hNi⟩ : ∃ N, N = i := ⟨_, rfl⟩
  rw [← hNi] at hLl hSg hSb2 hf2 hSl ⊢
  clear hi
  refine EvC.loopS (σ := Nat) (fun i => ⟨[(10, .sl (N == 0) SC .unk), (15, .fn 63 []), (16, .tl 0 (leastTo S i).length (leastTo S i).isEmpty), (51, .sl (N == 0) SC .unk), (52, .sc (.int .i64 N)), (53, .sc (.int .i64 i))], [], [(0, .arr 1 ((leastTo S i).map intC) true)], 1⟩) (fun i => N - i) (fun i => i ≤ N) [10, 15, 16, 51, 52, 53] 1 ?_ ?_
  ·exact ⟨[(3, 0)], 0, rfl, (by (simp only [go_sem, Int.natCast_zero, show leastTo S 0 = [] from rfl, List.map_nil, List.length_nil, List.isEmpty_nil]) <;> rfl), Nat.zero_le _⟩
  intro i hi
  have hOn := norefs_intC (leastTo S i)
  have hOl : ((leastTo S i).map intC).length = (leastTo S i).length := List.length_map _
  have hOb := leastTo_len S i
  refine EvC.a ?_
  refine EvC.seq ?_
  refine EvC.cond (by simp only [go_sem] <;> rfl) (fun hc => ?_) (fun hc => ?_)
  rotate_left
  ·refine EvC.exit ?_
   obtain rfl : i = N := by have : ¬ i < N := (by simpa using hc); omega
   clear hc
   have hLe : leastL S = leastTo S i := by rw [leastL, leastTo, hSl]
   rw [hLe]
   have h1 : (((leastTo S i).map intC).all fun y => decide (y.length = 1)) = true := by simp [List.all_eq_true, intC]
   generalize (leastTo S i).map intC = L at hOn hOl h1 ⊢
   refine EvC.frz 0 (by simp only [go_sem, hOn, hOl] <;> rfl) ?_
   refine EvC.k1 ?_ (h1 := by simp only [go_sem, hOl] <;> rfl) (c1 := .ca (clipI_is _ L .unk h1))
   refine EvC.rz ?_
   simp only [go_sem]
  have hil : i < N := by simpa using hc
  clear hc
  have hgi := hSg i hil
  have hbi := hSb2 i hil
  have hit : (i : Int).toNat = i := Int.toNat_natCast i
  have hsu := leastTo_succ S i
  have hOl2 := leastTo_len S (i + 1)
  obtain ⟨Ti, hTi⟩ : ∃ T, T = S.getD i [] := ⟨_, rfl⟩
  rw [← hTi] at hgi hbi
  refine EvC.skip ?_
  refine EvC.seq ?_
  refine EvC.block ?_
  refine EvC.a ?_ (by simp only [go_sem, hgi, hit, hLl] <;> rfl) (by simp; try omega)
  refine EvC.z 5 ?_
  have hTl : (Ti.map intC).length = Ti.length := List.length_map _
  have hTn := norefs_intC Ti
  have hI1 : inI64 ((i : Int) + 1) = true := inI64_of (by omega) (by omega)
  have hno : keepB S i = false → leastTo S (i + 1) = leastTo S i := fun h => by rw [hsu, h]; simp
  refine EvC.seq ?_
  refine EvC.a ?_ (by simp only [go_sem, hTl] <;> rfl)
  by_cases hz : Ti.length = 0
  ·refine EvC.ct ?_ (by simp only [go_sem, decide_eq_true (show (Ti.length : Int) = 0 by omega)] <;> rfl)
   refine EvC.exit ?_
   have hk : keepB S i = false := by unfold keepB; rw [← hTi, decide_eq_true hz]; rfl
   refine EvC.b ?_ (hok := by simp [hI1])
   exact ⟨[(0, 0)], i + 1, rfl, (by rw [hno hk]; simp only [go_sem, hOn, Int.natCast_add, Int.natCast_one] <;> rfl), hil, by omega⟩
  refine EvC.cs ?_ (by simp only [go_sem, decide_eq_false (show ¬ (Ti.length : Int) = 0 by omega)] <;> rfl)
  refine EvC.seq ?_
  refine EvC.a ?_ (by simp only [go_sem, hLl] <;> rfl)
  refine EvC.block ?_
  refine EvC.loopS (σ := Nat) (fun k => ⟨[(10, .sl (N == 0) SC .unk), (15, .fn 63 []), (16, .tl 0 (leastTo S i).length (leastTo S i).isEmpty), (17, .sc (.int .i64 i)), (18, .ia [.sl Ti.isEmpty (Ti.map intC) .unk]), (51, .sl (N == 0) SC .unk), (52, .sc (.int .i64 N)), (53, .sc (.int .i64 i)), (62, .sl (N == 0) SC .unk), (63, .sc (.int .i64 N)), (64, .sc (.int .i64 k))], [], [(0, .arr 1 ((leastTo S i).map intC) true)], 1⟩) (fun k => N - k) (fun k => k ≤ N ∧ ∀ j, j < k → badB S i j = false) [10, 15, 16, 17, 18, 51, 52, 53, 62, 63, 64] 1 ?_ ?_
  ·exact ⟨[(0, 0)], 0, rfl, (by simp only [go_sem, hOn, Int.natCast_zero] <;> rfl), Nat.zero_le _, fun j h => absurd h (Nat.not_lt_zero _)⟩
  rintro k ⟨k1, k2⟩
  refine EvC.a ?_
  refine EvC.seq ?_
  refine EvC.cond (by simp only [go_sem] <;> rfl) (fun hc => ?_) (fun hc => ?_)
  rotate_left
  ·refine EvC.exit ?_
   obtain rfl : k = N := by have : ¬ k < N := (by simpa using hc); omega
   clear hc
   have hk : keepB S i = true := by
    unfold keepB
    rw [← hTi, decide_eq_false hz]
    simp only [Bool.not_false, Bool.true_and, Bool.not_eq_true']
    rw [List.any_eq_false]
    intro j hj
    rw [List.mem_range, hSl] at hj
    rw [k2 j hj]; simp
   rw [hk, if_pos rfl] at hsu
   have hs : (leastTo S i).map intC ++ [[.sc (.int .i64 i)]] = (leastTo S (i + 1)).map intC := by rw [hsu, List.map_append]; rfl
   have hl2 : (leastTo S i).length + 1 = (leastTo S (i + 1)).length := by rw [hsu]; simp
   have hn2 : (leastTo S (i + 1)).isEmpty = false := by rw [hsu]; simp
   have hr2 : room (leastTo S (i + 1)).length 8 = true := by simp only [room_eq, decide_eq_true_eq]; omega
   have hOn2 := norefs_intC (leastTo S (i + 1))
   have hOl3 : ((leastTo S (i + 1)).map intC).length = (leastTo S (i + 1)).length := List.length_map _
   obtain ⟨U, hU⟩ : ∃ U, U = (leastTo S (i + 1)).map intC := ⟨_, rfl⟩
   rw [← hU] at hs hOn2 hOl3
   refine EvC.b ?_ (by simp only [go_sem, hs, hl2, hOl] <;> rfl) (by simp [hr2])
   refine EvC.b ?_ (hok := by simp [hI1])
   exact ⟨[(0, 0)], i + 1, rfl, (by rw [hn2, ← hU]; simp only [go_sem, hOn2, hOl3, Int.natCast_add, Int.natCast_one] <;> rfl), hil, by omega⟩
  have hkl2 : k < N := by simpa using hc
  clear hc
  have hgk := hSg k hkl2
  have hbk := hSb2 k hkl2
  have hkt : (k : Int).toNat = k := Int.toNat_natCast k
  have hI2 : inI64 ((k : Int) + 1) = true := inI64_of (by omega) (by omega)
  obtain ⟨Tk, hTk⟩ : ∃ T, T = S.getD k [] := ⟨_, rfl⟩
  rw [← hTk] at hgk hbk
  have hTkl : (Tk.map intC).length = Tk.length := List.length_map _
  have hTkn := norefs_intC Tk
  have hbad : badB S i k = (!decide (k = i) && (decide ((0 : Int) < Tk.length) && (subB Tk Ti && (decide (k < i) || !subB Ti Tk)))) := by unfold badB; rw [← hTi, ← hTk]
  have hnext : badB S i k = false → ∀ j, j < k + 1 → badB S i j = false := fun h j hj => by
   by_cases e : j = k
   ·rw [e]; exact h
   ·exact k2 j (by omega)
  have hkeep : badB S i k = true → keepB S i = false := fun h => by
   unfold keepB
   have : (List.range S.length).any (badB S i) = true := List.any_eq_true.2 ⟨k, List.mem_range.2 (by omega), h⟩
   rw [this]; simp
  refine EvC.skip ?_
  refine EvC.seq ?_
  refine EvC.block ?_
  refine EvC.a ?_ (by simp only [go_sem, hgk, hkt, hLl] <;> rfl) (by simp; try omega)
  refine EvC.z 5 ?_
  have qa := within63_is Tk.isEmpty Tk .unk Ti.isEmpty Ti .unk hbk hbi
  have qb := within63_is Ti.isEmpty Ti .unk Tk.isEmpty Tk .unk hbi hbk
  by_cases e1 : k = i
  ·have hb : badB S i k = false := by rw [hbad, decide_eq_true e1]; rfl
   have d1 : decide ((k : Int) = i) = true := decide_eq_true (by omega)
   apply EvC.s1
   ·apply Tr.run
    ·simp only [go_sem, d1, hTkl] <;> rfl
    ·simp
    apply Tr.cons
    ·exact .skipv (.sc (.bool false)) rfl rfl (by simp only [go_sem] <;> rfl) (by simp only [go_sem] <;> rfl)
    apply Tr.run
    ·simp only [go_sem, d1, hTkl] <;> rfl
    ·simp
    apply Tr.cons
    ·exact .skipv (.sc (.bool false)) rfl rfl (by simp only [go_sem] <;> rfl) (by simp only [go_sem] <;> rfl)
    apply Tr.done
    ·simp only [go_sem, d1, hTkl] <;> rfl
    ·simp
   refine EvC.cs ?_
   refine EvC.b ?_ (hok := by simp [hI2])
   exact ⟨[(0, 0)], k + 1, rfl, (by simp only [go_sem, hOn, Int.natCast_add, Int.natCast_one] <;> rfl), ⟨hkl2, hnext hb⟩, by omega⟩
  have d1 : decide ((k : Int) = i) = false := decide_eq_false (by omega)
  by_cases e2 : Tk.length = 0
  ·have hb : badB S i k = false := by rw [hbad, decide_eq_false (show ¬ (0 : Int) < Tk.length by omega)]; simp
   have d2 : decide ((0 : Int) < Tk.length) = false := decide_eq_false (by omega)
   apply EvC.s1
   ·apply Tr.run
    ·simp only [go_sem, d1, d2, hTkl] <;> rfl
    ·simp
    apply Tr.cons
    ·exact .skipv (.sc (.bool false)) rfl rfl (by simp only [go_sem] <;> rfl) (by simp only [go_sem] <;> rfl)
    apply Tr.run
    ·simp only [go_sem, d1, d2, hTkl] <;> rfl
    ·simp
    apply Tr.cons
    ·exact .skipv (.sc (.bool false)) rfl rfl (by simp only [go_sem] <;> rfl) (by simp only [go_sem] <;> rfl)
    apply Tr.done
    ·simp only [go_sem, d1, d2, hTkl] <;> rfl
    ·simp
   refine EvC.cs ?_
   refine EvC.b ?_ (hok := by simp [hI2])
   exact ⟨[(0, 0)], k + 1, rfl, (by simp only [go_sem, hOn, Int.natCast_add, Int.natCast_one] <;> rfl), ⟨hkl2, hnext hb⟩, by omega⟩
  have d2 : decide ((0 : Int) < Tk.length) = true := decide_eq_true (by omega)
  rw [decide_eq_false e1, d2] at hbad
  by_cases e3 : subB Tk Ti = true
  rotate_left
  ·have e3' : subB Tk Ti = false := by simpa using e3
   have hb : badB S i k = false := by rw [hbad, e3']; rfl
   rw [e3'] at qa
   apply EvC.s1
   ·apply Tr.run
    ·simp only [go_sem, d1, d2, hTkl] <;> rfl
    ·simp
    apply Tr.cons
    ·exact .cg (qa)
    apply Tr.run
    ·simp only [go_sem, d1, d2, hTkl] <;> rfl
    ·simp
    apply Tr.cons
    ·exact .skipv (.sc (.bool false)) rfl rfl (by simp only [go_sem] <;> rfl) (by simp only [go_sem] <;> rfl)
    apply Tr.done
    ·simp only [go_sem, d1, d2, hTkl, hTkn, hTn] <;> rfl
    ·simp
   refine EvC.cs ?_
   refine EvC.b ?_ (hok := by simp [hI2])
   exact ⟨[(0, 0)], k + 1, rfl, (by simp only [go_sem, hOn, Int.natCast_add, Int.natCast_one] <;> rfl), ⟨hkl2, hnext hb⟩, by omega⟩
  rw [e3] at qa hbad
  by_cases e4 : k < i
  ·have hb : badB S i k = true := by rw [hbad, decide_eq_true e4]; rfl
   have d3 : decide ((k : Int) < i) = true := decide_eq_true (by omega)
   apply EvC.s1
   ·apply Tr.run
    ·simp only [go_sem, d1, d2, d3, hTkl] <;> rfl
    ·simp
    apply Tr.cons
    ·exact .cg (qa)
    apply Tr.run
    ·simp only [go_sem, d1, d2, d3, hTkl] <;> rfl
    ·simp
    apply Tr.cons
    ·exact .skipv (.sc (.bool false)) rfl rfl (by simp only [go_sem] <;> rfl) (by simp only [go_sem] <;> rfl)
    apply Tr.done
    ·simp only [go_sem, d1, d2, d3, hTkl, hTkn, hTn] <;> rfl
    ·simp
   refine EvC.ct ?_
   refine EvC.exit ?_
   refine EvC.b ?_ (hok := by simp [hI1])
   exact ⟨[(0, 0)], i + 1, rfl, (by rw [hno (hkeep hb)]; simp only [go_sem, hOn, Int.natCast_add, Int.natCast_one] <;> rfl), hil, by omega⟩
  have d3 : decide ((k : Int) < i) = false := decide_eq_false (by omega)
  rw [decide_eq_false e4] at hbad
  by_cases e5 : subB Ti Tk = true
  ·have hb : badB S i k = false := by rw [hbad, e5]; rfl
   rw [e5] at qb
   refine EvC.k2 ?_ (h1 := by simp only [go_sem, d1, d2, d3, hTkl] <;> rfl) (c1 := .cg qa) (h2 := by simp only [go_sem, d1, d2, d3, hTkl] <;> rfl) (c2 := .cg qb) (h3 := by simp only [go_sem, d1, d2, d3, hTkl, hTkn, hTn] <;> rfl)
   refine EvC.cs ?_
   refine EvC.b ?_ (hok := by simp [hI2])
   exact ⟨[(0, 0)], k + 1, rfl, (by simp only [go_sem, hOn, Int.natCast_add, Int.natCast_one] <;> rfl), ⟨hkl2, hnext hb⟩, by omega⟩
  have e5' : subB Ti Tk = false := by simpa using e5
  have hb : badB S i k = true := by rw [hbad, e5']; rfl
  rw [e5'] at qb
  refine EvC.k2 ?_ (h1 := by simp only [go_sem, d1, d2, d3, hTkl] <;> rfl) (c1 := .cg qa) (h2 := by simp only [go_sem, d1, d2, d3, hTkl] <;> rfl) (c2 := .cg qb) (h3 := by simp only [go_sem, d1, d2, d3, hTkl, hTkn, hTn] <;> rfl)
  refine EvC.ct ?_
  refine EvC.exit ?_
  refine EvC.b ?_ (hok := by simp [hI1])
  exact ⟨[(0, 0)], i + 1, rfl, (by rw [hno (hkeep hb)]; simp only [go_sem, hOn, Int.natCast_add, Int.natCast_one] <;> rfl), hil, by omega⟩
 have hil : i < N := by simpa using hc
 clear hc
 have hge : fs[i]? = some (fs[i]'(by omega)) := List.getElem?_eq_getElem (by omega)
 have hfz2 := hfz _ (List.getElem_mem (show i < fs.length by omega))
 have htk : S.take (i + 1) = S.take i ++ [killW m W (fs[i]'(by omega))] := by
  rw [List.take_succ_eq_append_getElem (by omega)]; simp [hS]
 generalize fs[i]'(by omega) = f at hge hfz2 htk
 have hfg : (fs.map FA.cells)[i]? = some f.cells := by rw [List.getElem?_map, hge]; rfl
 have hit : (i : Int).toNat = i := Int.toNat_natCast i
 have q2 := qk f
 unfold killersA at q2
 rw [if_neg (fun h => h hfz2)] at q2
 have hK := hkl f
 rw [show killL m (mutF m f) W 0 = killW m W f from rfl] at q2 hK
 generalize killW m W f = K at q2 htk hK
 have hKn := norefs_intC K
 rw [FA.cells] at hfg q2
 have hfcl : (fs.map FA.cells).length = N := by rw [List.length_map, hN]
 refine EvC.skip ?_
 refine EvC.seq ?_
 refine EvC.block ?_
 refine EvC.a ?_ (by simp only [go_sem, hfg, hit, hfcl] <;> rfl) (by simp; try omega)
 refine EvC.z 4 ?_
 refine EvC.k1 ?_ (h1 := by simp only [go_sem, Mach.cells] <;> rfl) (c1 := .ca q2) (h2 := by simp only [go_sem, hWn, hKn] <;> rfl)
 refine EvC.z 13 ?_
 have hs : (S.take i).map setC ++ [[.sl K.isEmpty (K.map intC) .unk]] = (S.take (i + 1)).map setC := by rw [htk, List.map_append]; rfl
 have hLn2 := norefs_sets (S.take (i + 1))
 have hr2 : room (i + 1) 24 = true := by simp only [room_eq, decide_eq_true_eq]; omega
 have hLl2 : ((S.take (i + 1)).map setC).length = i + 1 := by rw [List.length_map, List.length_take]; omega
 have hne : (i + 1 == 0) = false := rfl
 obtain ⟨L2, hL2⟩ : ∃ L, L = (S.take (i + 1)).map setC := ⟨_, rfl⟩
 rw [← hL2] at hs hLn2 hLl2
 refine EvC.b ?_ (by simp only [go_sem, hs, hLl] <;> rfl) (by simp [hr2])
 refine EvC.b ?_ (hok := by exact inI64_of (by omega) (by omega))
 exact ⟨[(0, 0)], i + 1, rfl, (by rw [← hL2]; simp only [go_sem, Mach.cells, hLn2, hLl2, hne, Int.natCast_add, Int.natCast_one] <;> rfl), hil, by omega⟩
def isPairB (p : FA × FA) : Bool :=
 decide (p.1.kind < 3) && decide (p.2.kind < 3) && (decide (p.1.state < p.2.state) || decide (p.1.state = p.2.state) && decide (p.1.input < p.2.input))
theorem isPair_is (p : FA × FA) : PureIs prog 37 [.ag (prC p)] (.sc (.bool (isPairB p))) := by
 obtain ⟨f, g⟩ := p
 obtain ⟨k, s, i, t, a, o⟩ := f
 obtain ⟨k2, s2, i2, t2, a2, o2⟩ := g
 unfold isPairB prC
 simp only [FA.cells, List.cons_append, List.nil_append]
 refine PureIs.of1 5 [] func37 ntmps37 results37 fun _ => ?_
 refine EvC.a ?_
 refine EvC.z 0 ?_
 refine EvC.a ?_
 refine EvC.a ?_
 refine EvC.g ?_
 refine EvC.rz ?_
 simp only [go_sem]
 cases decide (k < 3) <;> cases decide (k2 < 3) <;> cases decide (s < s2) <;> cases decide (s = s2) <;> rfl
theorem refBoth_is {m : Mach} (hv : Valid m) (p : FA × FA) (hf : faultB m p.1 = true) (hv1 : Valid (mutF m p.1)) (hg : faultB (mutF m p.1) p.2 = true) :
  PureIs prog 17 [.ag m.cells, .ag (prC p)] (.ag (mutF (mutF m p.1) p.2).cells) := by
 obtain ⟨f, g⟩ := p
 simp only at hf hv1 hg ⊢
 have q1 := apply55_is hv f hf
 have q2 := apply55_is hv1 g hg
 generalize mutF m f = t at q1 q2
 generalize mutF t g = u at q2
 have hmr : AV.norefs t.cells = true := norefs_mcells t
 have hur : AV.norefs u.cells = true := norefs_mcells u
 unfold prC
 rw [FA.cells, Mach.cells] at q1 q2
 simp only [FA.cells, List.cons_append, List.nil_append]
 simp only [Mach.cells] at q2 q1 hmr hur ⊢
 refine PureIs.of1 5 [] func17 ntmps17 results17 fun _ => ?_
 refine EvC.a ?_ (by simp only [go_sem, Mach.cells] <;> rfl)
 refine EvC.z 0 ?_
 refine EvC.z 1 ?_
 refine EvC.k2D mixed ?_ (h1 := by simp only [go_sem, Mach.cells] <;> rfl) (c1 := .ca q1) (h2 := by simp only [go_sem, Mach.cells] <;> rfl) (c2 := .ca q2) (h3 := by simp only [go_sem, hmr, hur] <;> rfl)
 refine EvC.rz ?_
 simp only [go_sem]
def egF (l : List FA) (s i : Nat) : List FA := l.filter fun f => decide (f.state = (s : Int)) && decide (f.input = (i : Int))
def byI (l : List FA) (s i : Nat) : List FA := (List.range i).flatMap fun j => egF l s j
def byS (l : List FA) (n s : Nat) : List FA := (List.range s).flatMap fun j => byI l j n
def byE (m : Mach) (l : List FA) : List FA := byS l m.ins.toNat m.rows.length
def pfE (l : List FA) (n s i k : Nat) : List FA := byS l n s ++ (byI l s i ++ egF (l.take k) s i)
theorem byI_succ (l : List FA) (s i : Nat) : byI l s (i + 1) = byI l s i ++ egF l s i := by simp [byI, List.range_succ, List.flatMap_append]
theorem byS_succ (l : List FA) (n s : Nat) : byS l n (s + 1) = byS l n s ++ byI l s n := by simp [byS, List.range_succ, List.flatMap_append]
theorem pfE_zero (l : List FA) (n s i : Nat) : pfE l n s i 0 = byS l n s ++ byI l s i := by simp [pfE, egF]
theorem pfE_next (l : List FA) (n s i : Nat) : pfE l n s i l.length = pfE l n s (i + 1) 0 := by rw [pfE_zero, byI_succ, pfE, List.take_length]
theorem pfE_row (l : List FA) (n s : Nat) : pfE l n s n 0 = pfE l n (s + 1) 0 0 := by rw [pfE_zero, pfE_zero, byS_succ]; simp [byI]
theorem pfE_succ {l : List FA} (n s i : Nat) {k : Nat} {f : FA} (h : l[k]? = some f) : pfE l n s i (k + 1) = pfE l n s i k ++ (if (decide (f.state = (s : Int)) && decide (f.input = (i : Int))) = true then [f] else []) := by
 have hk : k < l.length := (List.getElem?_eq_some_iff.1 h).1
 have ht : l.take (k + 1) = l.take k ++ [f] := by rw [List.take_succ_eq_append_getElem hk, (List.getElem?_eq_some_iff.1 h).2]
 rw [pfE, pfE, ht, egF, List.filter_append, List.append_assoc, List.append_assoc, egF]
 congr 3
 rw [List.filter_cons, List.filter_nil]
theorem egF_len (l : List FA) (s i : Nat) : (egF l s i).length ≤ l.length := List.length_filter_le _ _
theorem byI_len (l : List FA) (hl : l.length ≤ 1000000) (s : Nat) : ∀ i, (byI l s i).length ≤ i * 1000000
 | 0 => by simp [byI]
 | i + 1 => by have := byI_len l hl s i; have := egF_len l s i; rw [byI_succ, List.length_append]; omega
theorem byS_len (l : List FA) (hl : l.length ≤ 1000000) (n : Nat) (hn : n ≤ 100) : ∀ s, (byS l n s).length ≤ s * 100000000
 | 0 => by simp [byS]
 | s + 1 => by have := byS_len l hl n hn s; have := byI_len l hl s n; rw [byS_succ, List.length_append]; omega
theorem pfE_len (l : List FA) (hl : l.length ≤ 1000000) (n : Nat) (hn : n ≤ 100) {s i : Nat} (hs : s ≤ 100) (hi : i ≤ 100) (k : Nat) : (pfE l n s i k).length ≤ 100000000000 := by
 have := byS_len l hl n hn s
 have := byI_len l hl s i
 have := egF_len (l.take k) s i
 have : (l.take k).length ≤ l.length := by rw [List.length_take]; omega
 rw [pfE, List.length_append, List.length_append]; omega
set_option maxHeartbeats 4000000 in
theorem byEdge_is {m : Mach} (hv : Valid m) (fn : Bool) (l : List FA) (fc : Cp) (hfl : l.length ≤ 1000000) :
  PureIs prog 39 [.ag m.cells, .sl fn (l.map FA.cells) fc] (.sl (byE m l).isEmpty ((byE m l).map FA.cells) .unk) := by
 refine PureIs.of1 3 [4, 5, 6, 7, 8, 13, 19, 25, 43] func39 ntmps39 results39 fun _ => ?_
 refine EvC.a ?_ (by simp only [go_sem, Mach.cells] <;> rfl)
 refine EvC.z 0 ?_
 refine EvC.a ?_
 refine EvC.seq ?_
 refine EvC.a ?_
 refine EvC.block ?_
 obtain ⟨n, hn⟩ : ∃ n, n = m.ins.toNat := ⟨_, rfl⟩
 obtain ⟨N, hN⟩ : ∃ N, N = m.rows.length := ⟨_, rfl⟩
 have hi1 := hv.ins
 have hr1 := hv.rows
 have hin : m.ins = (n : Int) := by omega
 have hll : (l.map FA.cells).length = l.length := List.length_map _
 have hrl : (m.rows.map rowC).length = N := by rw [List.length_map, hN]
 have hB : byE m l = byS l n N := by rw [byE, ← hn, ← hN]
 refine EvC.loopS (σ := Nat) (fun s => ⟨[(1, .sl fn (l.map FA.cells) fc), (2, .ia m.cells), (5, .tl 0 (pfE l n s 0 0).length (pfE l n s 0 0).isEmpty), (6, .sc (.int .i64 s))], [], [(0, .arr 6 ((pfE l n s 0 0).map FA.cells) true)], 1⟩) (fun s => N - s) (fun s => s ≤ N) [1, 2, 5, 6] 1 ?_ ?_
 ·exact ⟨[(2, 0)], 0, rfl, (by rw [show pfE l n 0 0 0 = [] by simp [pfE, byS, byI, egF]]; simp only [go_sem, Mach.cells, Int.natCast_zero, List.map_nil, List.length_nil, List.isEmpty_nil] <;> rfl), Nat.zero_le _⟩
 intro s hs
 have hAn := norefs_faL (pfE l n s 0 0)
 have hAl : ((pfE l n s 0 0).map FA.cells).length = (pfE l n s 0 0).length := List.length_map _
 refine EvC.seq ?_
 refine EvC.a ?_ (by simp only [go_sem, Mach.cells, hrl] <;> rfl)
 refine EvC.cond (by simp only [go_sem] <;> rfl) (fun hc => ?_) (fun hc => ?_)
 rotate_left
 ·refine EvC.exit ?_
  obtain rfl : s = N := by have : ¬ s < N := (by simpa using hc); omega
  have hp : pfE l n s 0 0 = byE m l := by rw [pfE_zero, hB]; simp [byI]
  rw [hp] at hAn hAl ⊢
  generalize byE m l = B at hAn hAl ⊢
  generalize B.map FA.cells = L at hAn hAl ⊢
  refine EvC.frz 0 (by simp only [go_sem, hAn, hAl] <;> rfl) ?_
  refine EvC.a ?_
  refine EvC.rz ?_
  simp only [go_sem]
 have hsl : s < N := by simpa using hc
 clear hc
 refine EvC.skip ?_
 refine EvC.seq ?_
 refine EvC.block ?_
 refine EvC.a ?_
 refine EvC.block ?_
 refine EvC.loopS (σ := Nat) (fun i => ⟨[(1, .sl fn (l.map FA.cells) fc), (2, .ia m.cells), (5, .tl 0 (pfE l n s i 0).length (pfE l n s i 0).isEmpty), (6, .sc (.int .i64 s)), (7, .sc (.int .i64 i))], [], [(0, .arr 6 ((pfE l n s i 0).map FA.cells) true)], 1⟩) (fun i => n - i) (fun i => i ≤ n) [1, 2, 5, 6, 7] 1 ?_ ?_
 ·exact ⟨[(0, 0)], 0, rfl, (by simp only [go_sem, Mach.cells, Int.natCast_zero, hAn, hAl] <;> rfl), Nat.zero_le _⟩
 intro i hi
 clear hAn hAl
 have hAn := norefs_faL (pfE l n s i 0)
 have hAl : ((pfE l n s i 0).map FA.cells).length = (pfE l n s i 0).length := List.length_map _
 refine EvC.seq ?_
 refine EvC.a ?_ (by simp only [go_sem, Mach.cells, hin] <;> rfl)
 refine EvC.cond (by simp only [go_sem] <;> rfl) (fun hc => ?_) (fun hc => ?_)
 rotate_left
 ·refine EvC.exit ?_
  obtain rfl : i = n := by have : ¬ i < n := (by simpa using hc); omega
  rw [pfE_row] at hAn hAl ⊢
  refine EvC.b ?_ (hok := by exact inI64_of (by omega) (by omega))
  exact ⟨[(0, 0)], s + 1, rfl, (by simp only [go_sem, hAn, hAl, hin, Mach.cells, Int.natCast_add, Int.natCast_one] <;> rfl), hsl, by omega⟩
 have hil : i < n := by simpa using hc
 clear hc
 refine EvC.skip ?_
 refine EvC.seq ?_
 refine EvC.block ?_
 refine EvC.a ?_
 refine EvC.block ?_
 refine EvC.loopS (σ := Nat) (fun k => ⟨[(1, .sl fn (l.map FA.cells) fc), (2, .ia m.cells), (5, .tl 0 (pfE l n s i k).length (pfE l n s i k).isEmpty), (6, .sc (.int .i64 s)), (7, .sc (.int .i64 i)), (8, .sc (.int .i64 k))], [], [(0, .arr 6 ((pfE l n s i k).map FA.cells) true)], 1⟩) (fun k => l.length - k) (fun k => k ≤ l.length) [1, 2, 5, 6, 7, 8] 1 ?_ ?_
 ·exact ⟨[(0, 0)], 0, rfl, (by simp only [go_sem, Mach.cells, Int.natCast_zero, hAn, hAl, hin] <;> rfl), Nat.zero_le _⟩
 intro k hk
 clear hAn hAl
 have hAn := norefs_faL (pfE l n s i k)
 have hAl : ((pfE l n s i k).map FA.cells).length = (pfE l n s i k).length := List.length_map _
 refine EvC.seq ?_
 refine EvC.a ?_ (by simp only [go_sem, hll] <;> rfl)
 refine EvC.cond (by simp only [go_sem] <;> rfl) (fun hc => ?_) (fun hc => ?_)
 rotate_left
 ·refine EvC.exit ?_
  obtain rfl : k = l.length := by have : ¬ k < l.length := (by simpa using hc); omega
  rw [pfE_next] at hAn hAl ⊢
  refine EvC.b ?_ (hok := by exact inI64_of (by omega) (by omega))
  exact ⟨[(0, 0)], i + 1, rfl, (by simp only [go_sem, hAn, hAl, hin, Mach.cells, Int.natCast_add, Int.natCast_one] <;> rfl), hil, by omega⟩
 have hkl : k < l.length := by simpa using hc
 clear hc
 have he : l[k]? = some (l[k]'hkl) := List.getElem?_eq_getElem hkl
 generalize l[k]'hkl = f at he
 have hps := pfE_succ n s i he
 have hpl := pfE_len l hfl n (by omega) (s := s) (i := i) (by omega) (by omega) k
 have hfc : (l.map FA.cells)[k]? = some f.cells := by rw [List.getElem?_map, he]; rfl
 have hkt : (k : Int).toNat = k := Int.toNat_natCast k
 have hfd : f.cells = [.sc (.int .i64 f.kind), .sc (.int .i64 f.state), .sc (.int .i64 f.input), .sc (.int .i64 f.to), .sc (.int .i64 f.at'), .sc (.int .i64 f.out)] := rfl
 refine EvC.skip ?_
 refine EvC.seq ?_
 refine EvC.block ?_
 by_cases c1 : f.state = (s : Int)
 rotate_left
 ·rw [decide_eq_false c1, Bool.false_and, if_neg (by simp), List.append_nil] at hps
  have d1 := decide_eq_false c1
  refine EvC.g ?_ (h := by simp only [go_sem, d1, hfc, hfd, hkt, hll] <;> rfl) (hok := by simp; try omega)
  refine EvC.cs ?_
  refine EvC.b ?_ (hok := by exact inI64_of (by omega) (by omega))
  exact ⟨[(0, 0)], k + 1, rfl, (by rw [hps]; simp only [go_sem, hAn, hAl, hin, Mach.cells, Int.natCast_add, Int.natCast_one] <;> rfl), hkl, by omega⟩
 by_cases c2 : f.input = (i : Int)
 rotate_left
 ·rw [decide_eq_false c2, Bool.and_false, if_neg (by simp), List.append_nil] at hps
  have d1 := decide_eq_true c1
  have d2 := decide_eq_false c2
  refine EvC.g ?_ (h := by simp only [go_sem, d1, d2, hfc, hfd, hkt, hll] <;> rfl) (hok := by simp; try omega)
  refine EvC.cs ?_
  refine EvC.b ?_ (hok := by exact inI64_of (by omega) (by omega))
  exact ⟨[(0, 0)], k + 1, rfl, (by rw [hps]; simp only [go_sem, hAn, hAl, hin, Mach.cells, Int.natCast_add, Int.natCast_one] <;> rfl), hkl, by omega⟩
 rw [decide_eq_true c1, decide_eq_true c2, Bool.and_self, if_pos rfl] at hps
 have d1 := decide_eq_true c1
 have d2 := decide_eq_true c2
 have hs2 : (pfE l n s i k).map FA.cells ++ [f.cells] = (pfE l n s i (k + 1)).map FA.cells := by rw [hps, List.map_append]; rfl
 have hl2 : (pfE l n s i k).length + 1 = (pfE l n s i (k + 1)).length := by rw [hps]; simp
 have hn2 : (pfE l n s i (k + 1)).isEmpty = false := by rw [hps]; simp
 have hr2 : room (pfE l n s i (k + 1)).length 48 = true := by simp only [room_eq, decide_eq_true_eq]; omega
 have hAn2 := norefs_faL (pfE l n s i (k + 1))
 have hAl2 : ((pfE l n s i (k + 1)).map FA.cells).length = (pfE l n s i (k + 1)).length := List.length_map _
 obtain ⟨U, hU⟩ : ∃ U, U = (pfE l n s i (k + 1)).map FA.cells := ⟨_, rfl⟩
 rw [← hU] at hs2 hAn2 hAl2
 rw [hfd] at hs2 hfc
 refine EvC.g ?_ (h := by simp only [go_sem, d1, d2, hfc, hkt, hll] <;> rfl) (hok := by simp; try omega)
 refine EvC.ct ?_
 refine EvC.b ?_ (by simp only [go_sem, hfc, hkt, hll, hs2, hl2, hAl] <;> rfl) (by simp [hr2]; try omega)
 refine EvC.b ?_ (hok := by exact inI64_of (by omega) (by omega))
 exact ⟨[(0, 0)], k + 1, rfl, (by rw [hn2, ← hU]; simp only [go_sem, hAn2, hAl2, hin, Mach.cells, Int.natCast_add, Int.natCast_one] <;> rfl), hkl, by omega⟩
theorem rows_get {a b : Mach} (h : a.rows.map (·.2) = b.rows.map (·.2)) {i : Nat} {r : Row} (hr : a.rows[i]? = some r) : ∃ n, b.rows[i]? = some (n, r.2) := by
 have h2 := congrArg (fun l => l[i]?) h
 simp only [List.getElem?_map, hr, Option.map_some] at h2
 cases hb : b.rows[i]? with
 | none => rw [hb] at h2; cases h2
 | some q => rw [hb] at h2; simp only [Option.map_some, Option.some.injEq] at h2; exact ⟨q.1, by rw [h2]⟩
theorem sameM_is {a b : Mach} (h1 : a.ins = b.ins) (h2 : a.outs = b.outs) (h3 : a.rows.map (·.2) = b.rows.map (·.2)) (hl : a.rows.length < 1000000) (hr : ∀ r ∈ a.rows, r.2.length < 1000000) : PureIs prog 16 [.ag a.cells, .ag b.cells] (.sc (.bool true)) := by
 have hl2 : b.rows.length = a.rows.length := by have := congrArg List.length h3; simpa using this.symm
 refine PureIs.of1 7 [27, 32, 47, 55, 74] func16 ntmps16 results16 fun _ => ?_
 refine EvC.a ?_ (by simp only [go_sem, Mach.cells] <;> rfl)
 refine EvC.z 0 ?_
 refine EvC.z 1 ?_
 refine EvC.seq ?_
 refine EvC.g ?_ (h := by simp only [go_sem, h1, h2, hl2] <;> rfl)
 refine EvC.cs ?_
 refine EvC.seq ?_
 refine EvC.a ?_
 refine EvC.block ?_
 refine EvC.loopS (σ := Nat) (fun i => ⟨[(2, .ia a.cells), (3, .ia b.cells), (5, .sc (.int .i64 i))], [], [], 0⟩) (fun i => a.rows.length - i) (fun i => i ≤ a.rows.length) [2, 3, 5] 0 ?_ ?_
 ·exact ⟨[], 0, rfl, (by simp only [go_sem, Mach.cells, h1, h2] <;> rfl), Nat.zero_le _⟩
 intro i hi
 refine EvC.seq ?_
 refine EvC.a ?_ (by simp only [go_sem, Mach.cells] <;> rfl)
 refine EvC.cond (by simp only [go_sem] <;> rfl) (fun hc => ?_) (fun hc => ?_)
 rotate_left
 ·refine EvC.exit ?_
  refine EvC.a ?_
  refine EvC.rz ?_
  simp only [go_sem]
 have hi : i < a.rows.length := by simpa using hc
 have he : a.rows[i]? = some a.rows[i] := List.getElem?_eq_getElem hi
 have hm := List.getElem_mem hi
 generalize a.rows[i] = r at he hm
 obtain ⟨n, hb⟩ := rows_get h3 he
 obtain ⟨na, es⟩ := r
 have hes := hr _ hm
 simp only at hb hes
 refine EvC.skip ?_
 refine EvC.seq ?_
 refine EvC.block ?_
 refine EvC.seq ?_
 refine EvC.d mixed ?_ (h := by simp only [go_sem, he, hb, rowC, Mach.cells] <;> rfl)
 refine EvC.cs ?_
 refine EvC.a ?_
 refine EvC.block ?_
 refine EvC.loopS (σ := Nat) (fun k => ⟨[(2, .ia a.cells), (3, .ia b.cells), (5, .sc (.int .i64 i)), (6, .sc (.int .i64 k))], [], [], 0⟩) (fun k => es.length - k) (fun k => k ≤ es.length) [2, 3, 5, 6] 0 ?_ ?_
 ·exact ⟨[], 0, rfl, (by simp only [go_sem, Mach.cells, h1, h2] <;> rfl), Nat.zero_le _⟩
 intro k hk
 refine EvC.seq ?_
 refine EvC.a ?_ (by simp only [go_sem, he, rowC, Mach.cells] <;> rfl)
 refine EvC.cond (by simp only [go_sem] <;> rfl) (fun hc => ?_) (fun hc => ?_)
 rotate_left
 ·refine EvC.exit ?_
  refine EvC.b ?_ (hok := by exact inI64_of (by omega) (by omega))
  exact ⟨[], i + 1, rfl, (by simp only [go_sem, Mach.cells] <;> rfl), by omega, by omega⟩
 have hk : k < es.length := by simpa using hc
 have hek : es[k]? = some es[k] := List.getElem?_eq_getElem hk
 generalize es[k] = e at hek
 refine EvC.skip ?_
 refine EvC.seq ?_
 refine EvC.block ?_
 refine EvC.d mixed ?_ (h := by simp only [go_sem, he, hb, rowC, Mach.cells, hek, edgeC] <;> rfl)
 refine EvC.cs ?_
 refine EvC.b ?_ (hok := by exact inI64_of (by omega) (by omega))
 exact ⟨[], k + 1, rfl, (by simp only [go_sem, Mach.cells] <;> rfl), by omega, by omega⟩
def prR (f : FA) (l : List FA) : List (FA × FA) := (l.filter fun g => isPairB (f, g)).map fun g => (f, g)
def prS (L : List FA) (i : Nat) : List (FA × FA) := (L.take i).flatMap fun f => prR f L
theorem prS_succ {L : List FA} {i : Nat} {f : FA} (h : L[i]? = some f) : prS L (i + 1) = prS L i ++ prR f L := by
 have hk : i < L.length := (List.getElem?_eq_some_iff.1 h).1
 rw [prS, List.take_succ_eq_append_getElem hk, (List.getElem?_eq_some_iff.1 h).2, List.flatMap_append]; simp [prS]
theorem prR_succ {L : List FA} {k : Nat} {g : FA} (f : FA) (h : L[k]? = some g) : prR f (L.take (k + 1)) = prR f (L.take k) ++ (if isPairB (f, g) = true then [(f, g)] else []) := by
 have hk : k < L.length := (List.getElem?_eq_some_iff.1 h).1
 rw [prR, List.take_succ_eq_append_getElem hk, (List.getElem?_eq_some_iff.1 h).2, List.filter_append, List.map_append, List.filter_cons, List.filter_nil]
 by_cases h : isPairB (f, g) = true
 ·rw [if_pos h, if_pos h]; rfl
 ·rw [if_neg h, if_neg h]; rfl
theorem prR_len (f : FA) (l : List FA) : (prR f l).length ≤ l.length := by rw [prR, List.length_map]; exact List.length_filter_le _ _
theorem prS_len (L : List FA) (hL : L.length ≤ 100000) : ∀ i, i ≤ L.length → (prS L i).length ≤ i * 100000
 | 0, _ => by simp [prS]
 | i + 1, h => by
   have := prS_len L hL i (by omega)
   have he : L[i]? = some (L[i]'(by omega)) := List.getElem?_eq_getElem (by omega)
   have := prR_len (L[i]'(by omega)) L
   rw [prS_succ he, List.length_append]; omega
def refPrs (m : Mach) (ks : List Int) : List (FA × FA) := prS (byE m (allF m ks)) (byE m (allF m ks)).length
set_option maxHeartbeats 4000000 in
theorem refPairs_is {m : Mach} (hv : Valid m) (kn : Bool) (ks : List Int) (kc : Cp) (hks : ks.length ≤ 1000) (hA : (allF m ks).length ≤ 1000000) (hB : (byE m (allF m ks)).length ≤ 100000) :
  PureIs prog 10 [.ag m.cells, .sl kn (ks.map intC) kc] (.sl (refPrs m ks).isEmpty ((refPrs m ks).map prC) .unk) := by
 have q1 := all48_is hv kn ks kc hks
 have q2 := byEdge_is hv (allF m ks).isEmpty (allF m ks) .unk hA
 have hn1 := norefs_faL (allF m ks)
 unfold refPrs
 generalize byE m (allF m ks) = L at q2 hB ⊢
 generalize (allF m ks).isEmpty = en at q1 q2
 generalize (allF m ks).map FA.cells = A at q1 q2 hn1
 have hn2 := norefs_faL L
 refine PureIs.of1 3 [4, 5, 6, 7, 8, 9, 18, 24, 37] func10 ntmps10 results10 fun _ => ?_
 refine EvC.a ?_ (by simp only [go_sem, Mach.cells] <;> rfl)
 refine EvC.z 0 ?_
 refine EvC.k2D mixed ?_ (h1 := by simp only [go_sem, Mach.cells] <;> rfl) (c1 := .ca q1) (h2 := by simp only [go_sem, Mach.cells] <;> rfl) (c2 := .ca q2) (h3 := by simp only [go_sem, hn1, hn2] <;> rfl)
 refine EvC.a ?_
 refine EvC.seq ?_
 refine EvC.a ?_
 refine EvC.block ?_
 have hLl : (L.map FA.cells).length = L.length := List.length_map _
 refine EvC.loopS (σ := Nat) (fun i => ⟨[(5, .sl L.isEmpty (L.map FA.cells) .unk), (6, .tl 0 (prS L i).length (prS L i).isEmpty), (7, .sc (.int .i64 i))], [], [(0, .arr 12 ((prS L i).map prC) true)], 1⟩) (fun i => L.length - i) (fun i => i ≤ L.length) [5, 6, 7] 1 ?_ ?_
 ·exact ⟨[(8, 0)], 0, rfl, (by rw [show prS L 0 = [] by simp [prS]]; simp only [go_sem, Mach.cells, Int.natCast_zero, List.map_nil, List.length_nil, List.isEmpty_nil] <;> rfl), Nat.zero_le _⟩
 intro i hi
 have hPn := pairs_norefs (prS L i)
 have hPl : ((prS L i).map prC).length = (prS L i).length := List.length_map _
 refine EvC.seq ?_
 refine EvC.a ?_ (by simp only [go_sem, hLl] <;> rfl)
 refine EvC.cond (by simp only [go_sem] <;> rfl) (fun hc => ?_) (fun hc => ?_)
 rotate_left
 ·refine EvC.exit ?_
  obtain rfl : i = L.length := by have : ¬ i < L.length := (by simpa using hc); omega
  generalize (prS L L.length).isEmpty = e at hPn hPl ⊢
  generalize (prS L L.length).map prC = P at hPn hPl ⊢
  refine EvC.frz 0 (by simp only [go_sem, hPn, hPl] <;> rfl) ?_
  refine EvC.a ?_
  refine EvC.rz ?_
  simp only [go_sem]
 have hil : i < L.length := by simpa using hc
 clear hc
 have he : L[i]? = some (L[i]'hil) := List.getElem?_eq_getElem hil
 have hlen := prS_len L hB i hi
 have hsu := prS_succ he
 generalize L[i]'hil = f at he hsu
 have hfc : (L.map FA.cells)[i]? = some f.cells := by rw [List.getElem?_map, he]; rfl
 have hit : (i : Int).toNat = i := Int.toNat_natCast i
 rw [FA.cells] at hfc
 refine EvC.skip ?_
 refine EvC.seq ?_
 refine EvC.block ?_
 refine EvC.a ?_
 refine EvC.block ?_
 refine EvC.loopS (σ := Nat) (fun k => ⟨[(5, .sl L.isEmpty (L.map FA.cells) .unk), (6, .tl 0 (prS L i ++ prR f (L.take k)).length (prS L i ++ prR f (L.take k)).isEmpty), (7, .sc (.int .i64 i)), (8, .sc (.int .i64 k))], [], [(0, .arr 12 ((prS L i ++ prR f (L.take k)).map prC) true)], 1⟩) (fun k => L.length - k) (fun k => k ≤ L.length) [5, 6, 7, 8] 1 ?_ ?_
 ·exact ⟨[(0, 0)], 0, rfl, (by rw [show prS L i ++ prR f (L.take 0) = prS L i by simp [prR]]; simp only [go_sem, Mach.cells, Int.natCast_zero, hPn, hPl] <;> rfl), Nat.zero_le _⟩
 intro k hk
 clear hPn hPl
 obtain ⟨T, hT⟩ : ∃ T, T = prS L i ++ prR f (L.take k) := ⟨_, rfl⟩
 rw [← hT]
 have hPn := pairs_norefs T
 have hPl : (T.map prC).length = T.length := List.length_map _
 refine EvC.seq ?_
 refine EvC.a ?_ (by simp only [go_sem, hLl] <;> rfl)
 refine EvC.cond (by simp only [go_sem] <;> rfl) (fun hc => ?_) (fun hc => ?_)
 rotate_left
 ·refine EvC.exit ?_
  obtain rfl : k = L.length := by have : ¬ k < L.length := (by simpa using hc); omega
  rw [List.take_length, ← hsu] at hT
  rw [hT] at hPn hPl ⊢
  refine EvC.b ?_ (hok := by exact inI64_of (by omega) (by omega))
  exact ⟨[(0, 0)], i + 1, rfl, (by simp only [go_sem, hPn, hPl, Int.natCast_add, Int.natCast_one] <;> rfl), hil, by omega⟩
 have hkl : k < L.length := by simpa using hc
 clear hc
 have hge : L[k]? = some (L[k]'hkl) := List.getElem?_eq_getElem hkl
 generalize L[k]'hkl = g at hge
 have hps := prR_succ f hge
 have hl3 := prR_len f (L.take k)
 have hl4 : (L.take k).length ≤ k := by rw [List.length_take]; omega
 have hgc : (L.map FA.cells)[k]? = some g.cells := by rw [List.getElem?_map, hge]; rfl
 have hkt : (k : Int).toNat = k := Int.toNat_natCast k
 rw [FA.cells] at hgc
 have q := isPair_is (f, g)
 unfold prC at q
 simp only [FA.cells, List.cons_append, List.nil_append] at q
 have hTl : T.length ≤ i * 100000 + k := by rw [hT, List.length_append]; omega
 have hT2 : prS L i ++ prR f (L.take (k + 1)) = T ++ (if isPairB (f, g) = true then [(f, g)] else []) := by rw [hps, ← List.append_assoc, ← hT]
 refine EvC.skip ?_
 refine EvC.seq ?_
 refine EvC.block ?_
 refine EvC.d mixed ?_ (h := by simp only [go_sem, hfc, hit, hgc, hkt, hLl] <;> rfl) (hok := by simp; try omega)
 refine EvC.z 14 ?_
 by_cases hb : isPairB (f, g) = true
 rotate_left
 ·have hb2 : isPairB (f, g) = false := by simpa using hb
  rw [hb2] at q
  rw [if_neg hb, List.append_nil] at hT2
  refine EvC.k1 ?_ (c1 := .ca q)
  refine EvC.cs ?_
  refine EvC.b ?_ (hok := by exact inI64_of (by omega) (by omega))
  exact ⟨[(0, 0)], k + 1, rfl, (by rw [hT2]; simp only [go_sem, hPn, hPl, Int.natCast_add, Int.natCast_one] <;> rfl), hkl, by omega⟩
 rw [hb] at q
 rw [if_pos hb] at hT2
 have hs2 : T.map prC ++ [[.sc (.int .i64 f.kind), .sc (.int .i64 f.state), .sc (.int .i64 f.input), .sc (.int .i64 f.to), .sc (.int .i64 f.at'), .sc (.int .i64 f.out), .sc (.int .i64 g.kind), .sc (.int .i64 g.state), .sc (.int .i64 g.input), .sc (.int .i64 g.to), .sc (.int .i64 g.at'), .sc (.int .i64 g.out)]] = (T ++ [(f, g)]).map prC := by rw [List.map_append]; rfl
 have hl2 : T.length + 1 = (T ++ [(f, g)]).length := by simp
 have hn2 : (T ++ [(f, g)]).isEmpty = false := by simp
 have hr2 : room (T ++ [(f, g)]).length 96 = true := by simp only [room_eq, decide_eq_true_eq]; omega
 have hPn2 := pairs_norefs (T ++ [(f, g)])
 have hPl2 : ((T ++ [(f, g)]).map prC).length = (T ++ [(f, g)]).length := List.length_map _
 generalize T ++ [(f, g)] = T2 at hT2 hs2 hl2 hn2 hr2 hPn2 hPl2
 refine EvC.k1 ?_ (c1 := .ca q)
 refine EvC.ct ?_
 refine EvC.b ?_ (by simp only [go_sem, hs2, hl2, hPl] <;> rfl) (by simp [hr2])
 refine EvC.b ?_ (hok := by exact inI64_of (by omega) (by omega))
 exact ⟨[(0, 0)], k + 1, rfl, (by rw [hT2, hn2]; simp only [go_sem, hPn2, hPl2, Int.natCast_add, Int.natCast_one] <;> rfl), hkl, by omega⟩
theorem intsEq_is (na nb : Bool) (a : List Int) (cb : Cp) (hl : a.length < 1000000) : PureIs prog 21 [.sl na (a.map intC) .full, .sl nb (a.map intC) cb] (.sc (.bool true)) := by
 have q := same37_is false false [(na, a, .full)] [(nb, a, cb)] .full .full (by simp) (by simpa using hl)
 rw [show sameW [(na, a, Cp.full)] [(nb, a, cb)] = true by simp [sameW]] at q
 simp only [List.map_cons, List.map_nil, rwC] at q
 have hn := norefs_intC a
 have hll : (a.map intC).length = a.length := List.length_map _
 generalize a.map intC = L at q hn hll ⊢
 refine PureIs.of1 2 [4] func21 ntmps21 results21 fun _ => ?_
 refine EvC.a ?_
 refine EvC.k1 ?_ (c1 := .ca q) (h2 := by simp only [go_sem, hn, hll] <;> rfl)
 refine EvC.rz ?_
 simp only [go_sem]
theorem pairsEq_is (na nb : Bool) (a : List (FA × FA)) (cb : Cp) (hl : a.length < 1000000) : PureIs prog 13 [.sl na (a.map prC) .full, .sl nb (a.map prC) cb] (.sc (.bool true)) := by
 have hn := pairs_norefs a
 have hll : (a.map prC).length = a.length := List.length_map _
 refine PureIs.of1 2 [4, 5, 17, 21, 32] func13 ntmps13 results13 fun _ => ?_
 refine EvC.a ?_
 refine EvC.seq ?_
 refine EvC.g ?_ (h := by simp only [go_sem, hll] <;> rfl)
 refine EvC.cs ?_
 refine EvC.seq ?_
 refine EvC.a ?_
 refine EvC.block ?_
 refine EvC.loopS (σ := Nat) (fun i => ⟨[(0, .sl na (a.map prC) .full), (1, .sl nb (a.map prC) cb), (5, .sc (.int .i64 i))], [], [], 0⟩) (fun i => a.length - i) (fun i => i ≤ a.length) [0, 1, 5] 0 ?_ ?_
 ·exact ⟨[], 0, rfl, (by simp only [go_sem, Int.natCast_zero] <;> rfl), Nat.zero_le _⟩
 intro i hi
 refine EvC.seq ?_
 refine EvC.a ?_ (by simp only [go_sem, hll] <;> rfl)
 refine EvC.cond (by simp only [go_sem] <;> rfl) (fun hc => ?_) (fun hc => ?_)
 rotate_left
 ·refine EvC.exit ?_
  refine EvC.a ?_
  refine EvC.rz ?_
  simp only [go_sem]
 have hil : i < a.length := by simpa using hc
 clear hc
 have he : a[i]? = some (a[i]'hil) := List.getElem?_eq_getElem hil
 generalize a[i]'hil = p at he
 have hpc : (a.map prC)[i]? = some (prC p) := by rw [List.getElem?_map, he]; rfl
 obtain ⟨f, g⟩ := p
 unfold prC at hpc
 rw [List.getElem?_map, he, Option.map_some] at hpc
 clear hpc
 have hpc : (a.map prC)[i]? = some [.sc (.int .i64 f.kind), .sc (.int .i64 f.state), .sc (.int .i64 f.input), .sc (.int .i64 f.to), .sc (.int .i64 f.at'), .sc (.int .i64 f.out), .sc (.int .i64 g.kind), .sc (.int .i64 g.state), .sc (.int .i64 g.input), .sc (.int .i64 g.to), .sc (.int .i64 g.at'), .sc (.int .i64 g.out)] := by rw [List.getElem?_map, he]; rfl
 have hit : (i : Int).toNat = i := Int.toNat_natCast i
 refine EvC.skip ?_
 refine EvC.seq ?_
 refine EvC.block ?_
 refine EvC.d mixed ?_ (h := by simp only [go_sem, hpc, hit, hll] <;> rfl) (hok := by simp; try omega)
 refine EvC.cs ?_
 refine EvC.b ?_ (hok := by exact inI64_of (by omega) (by omega))
 exact ⟨[], i + 1, rfl, (by simp only [go_sem, Int.natCast_add, Int.natCast_one] <;> rfl), hil, by omega⟩
set_option maxRecDepth 100000
def exM : Mach := ⟨1, 2, false, [(false, [(1, 0)]), (false, [(0, 1)])]⟩
def exW : Mach := ⟨1, 2, false, [(false, [(1, 1)]), (false, [(0, 0)])]⟩
def xa : FA := ⟨0, 0, 0, 0, 0, 1⟩
def xb : FA := ⟨0, 1, 0, 0, 0, 0⟩
def xc : FA := ⟨1, 0, 0, 0, 0, 0⟩
def xd : FA := ⟨3, 0, 0, 1, 0, 0⟩
def xu : FA := ⟨2, 0, 0, 0, 0, 0⟩
def xv : FA := ⟨2, 1, 0, 0, 0, 0⟩
def xWs : List RW := [(false, [0], .unk), (false, [0, 0], .unk)]
def errB (e : Int) : AV := .tu [.ag [.sc (.int .i64 0), .sc (.int .i64 0), .sl true [] .zer], .sc (.int .i64 e)]
theorem ex_both1 : bothA exM (xa, xb) = .tu [.ag (mutF (mutF exM xa) xb).cells, .sc (.int .i64 0)] := by kernel_rfl
theorem ex_both1m : mutF (mutF exM xa) xb = exW := by kernel_rfl
theorem ex_both2 : bothA exM (xb, xa) = errB 1 := by kernel_rfl
theorem ex_both3 : bothA exM (xa, xc) = errB 1 := by kernel_rfl
theorem ex_srt : srtE (alF exM [0, 2]) = [xa, xu, xb, xv] := by kernel_rfl
theorem ex_all : allR exM [0, 2] 65536 = 0 := by kernel_rfl
theorem ex_check : checkM exM = 0 := by kernel_rfl
theorem ex_prs : prs [xa, xu, xb, xv] = [(xa, xb), (xa, xv), (xu, xb), (xu, xv)] := by kernel_rfl
theorem ex_pairsE (n : Int) (h0 : 0 ≤ n) (h1 : n ≤ 65536) : pairsE exM [0, 2] n = if n < 4 then 13 else 0 := by
 unfold pairsE
 rw [if_neg (by rw [ex_check]; simp), if_neg (by
  rintro (h | h | ⟨k, hk, h⟩)
  ·omega
  ·omega
  ·simp at hk; omega), if_neg (by rw [ex_all]; simp), ex_srt, ex_prs]
 rfl
theorem ex_pairs1 : pairsA exM [0, 2] 4 = .tu [.sl false ([(xa, xb), (xa, xv), (xu, xb), (xu, xv)].map prC) .full, .sc (.int .i64 0)] := by
 rw [pairsA, ex_pairsE 4 (by omega) (by omega), if_neg (by simp), ex_srt, ex_prs]; rfl
theorem ex_pairs2 : pairsA exM [0, 2] 3 = .tu [.sl true [] .unk, .sc (.int .i64 13)] := by
 rw [pairsA, ex_pairsE 3 (by omega) (by omega), if_pos (by omega), if_pos (by simp)]
theorem ex_eqs : equalsA exM [xa, xb, xc, xd] = .tu [.sl false ([false, false, false, true].map boolC) .full, .sc (.int .i64 0)] := by kernel_rfl
theorem ex_dist : distinctA exM [xa, xb, xc, xd, ⟨3, 1, 0, 0, 0, 0⟩] = .tu [.sl false ([0, 1, 1, 3, 3].map intC) .full, .sc (.int .i64 0)] := by kernel_rfl
theorem ex_least : leastA exM xWs [xa, xb, xc, xd] = .tu [.sl false ([1].map intC) .full, .sc (.int .i64 0)] := by kernel_rfl
theorem ex_sub1 : subsumesA exM xWs xa xb = .tu [.sc (.bool false), .sc (.int .i64 0)] := by kernel_rfl
theorem ex_sub2 : subsumesA exM xWs xb xa = .tu [.sc (.bool true), .sc (.int .i64 0)] := by kernel_rfl
theorem ex_sub3 : subsumesA exM xWs xb xc = .tu [.sc (.bool true), .sc (.int .i64 0)] := by kernel_rfl
theorem ex_sub4 : subsumesA exM xWs xd xa = .tu [.sc (.bool false), .sc (.int .i64 0)] := by kernel_rfl
set_option maxRecDepth 10000
abbrev fA (a b c d e f : Int) : List AV := [.sc (.int .i64 a), .sc (.int .i64 b), .sc (.int .i64 c), .sc (.int .i64 d), .sc (.int .i64 e), .sc (.int .i64 f)]
abbrev pA (a b c d e f a' b' c' d' e' f' : Int) : List AV := [.sc (.int .i64 a), .sc (.int .i64 b), .sc (.int .i64 c), .sc (.int .i64 d), .sc (.int .i64 e), .sc (.int .i64 f), .sc (.int .i64 a'), .sc (.int .i64 b'), .sc (.int .i64 c'), .sc (.int .i64 d'), .sc (.int .i64 e'), .sc (.int .i64 f')]
abbrev iA (a : Int) : List AV := [.sc (.int .i64 a)]
abbrev eA (a b : Int) : List AV := [.sc (.int .i64 a), .sc (.int .i64 b)]
abbrev exC : List AV := [.sc (.int .i64 1), .sc (.int .i64 2), .sl false [[.sl false [eA 1 0] .full], [.sl false [eA 0 1] .full]] .full]
abbrev wsC : AV := .sl false [[.sl false [iA 0] .full], [.sl false [iA 0, iA 0] .full]] .full
abbrev noC : List AV := [.sc (.int .i64 0), .sc (.int .i64 0), .sl true [] .zer]
theorem ex_rows : ∀ r ∈ exM.rows, r.2.length < 1000000 := by decide
theorem ex_noNil : NoNil exM := fun r hr h => by
 simp only [exM, List.mem_cons, List.not_mem_nil, or_false] at hr
 rcases hr with rfl | rfl <;> cases h
theorem ex_ws : ∀ w ∈ xWs, w.2.1.length < 1000000 := by decide
theorem ex_both1_is : PureIs prog 14 [.ag exC, .ag (pA 0 0 0 0 0 1 0 1 0 0 0 0)] (.tu [.ag [.sc (.int .i64 1), .sc (.int .i64 2), .sl false [[.sl false [eA 1 1] .unk], [.sl false [eA 0 0] .unk]] .unk], .sc (.int .i64 0)]) := by
 have q := pairBoth_is exM ex_rows ex_noNil (xa, xb)
 rw [ex_both1, ex_both1m] at q
 exact .weak q
theorem ex_both2_is : PureIs prog 14 [.ag exC, .ag (pA 0 1 0 0 0 0 0 0 0 0 0 1)] (.tu [.ag noC, .sc (.int .i64 1)]) := by
 have q := pairBoth_is exM ex_rows ex_noNil (xb, xa)
 rw [ex_both2] at q
 exact .weak q
theorem ex_both3_is : PureIs prog 14 [.ag exC, .ag (pA 0 0 0 0 0 1 1 0 0 0 0 0)] (.tu [.ag noC, .sc (.int .i64 1)]) := by
 have q := pairBoth_is exM ex_rows ex_noNil (xa, xc)
 rw [ex_both3] at q
 exact .weak q
abbrev exP : List (List AV) := [pA 0 0 0 0 0 1 0 1 0 0 0 0, pA 0 0 0 0 0 1 2 1 0 0 0 0, pA 2 0 0 0 0 0 0 1 0 0 0 0, pA 2 0 0 0 0 0 2 1 0 0 0 0]
theorem ex_pairs1_is : PureIs prog 11 [.ag exC, .sl false [iA 0, iA 2] .full, .sc (.int .i64 4)] (.tu [.sl false exP .full, .sc (.int .i64 0)]) := by
 have q := pairs_is exM ex_rows false [0, 2] .unk (by decide) 4
 rw [ex_pairs1] at q
 exact .weak q
theorem ex_pairs2_is : PureIs prog 11 [.ag exC, .sl false [iA 0, iA 2] .full, .sc (.int .i64 3)] (.tu [.sl true [] .unk, .sc (.int .i64 13)]) := by
 have q := pairs_is exM ex_rows false [0, 2] .unk (by decide) 3
 rw [ex_pairs2] at q
 exact .weak q
theorem ex_same_is : PureIs prog 16 [.ag [.sc (.int .i64 1), .sc (.int .i64 2), .sl false [[.sl false [eA 1 1] .unk], [.sl false [eA 0 0] .unk]] .unk], .ag [.sc (.int .i64 1), .sc (.int .i64 2), .sl false [[.sl false [eA 1 1] .full], [.sl false [eA 0 0] .full]] .full]] (.sc (.bool true)) := by
 have q := sameM_is (a := exW) (b := exW) rfl rfl rfl (by decide) (by decide)
 exact .weak q
theorem ex_pairsEq_is : PureIs prog 13 [.sl false exP .full, .sl false exP .full] (.sc (.bool true)) := by
 exact pairsEq_is false false [(xa, xb), (xa, xv), (xu, xb), (xu, xv)] .full (by decide)
abbrev exL : List (List AV) := [fA 0 0 0 0 0 1, fA 0 1 0 0 0 0, fA 1 0 0 0 0 0, fA 3 0 0 1 0 0]
theorem ex_eqs_is : PureIs prog 19 [.ag exC, .sl false exL .full] (.tu [.sl false [[.sc (.bool false)], [.sc (.bool false)], [.sc (.bool false)], [.sc (.bool true)]] .full, .sc (.int .i64 0)]) := by
 have q := equals19_is exM ex_rows ex_noNil false [xa, xb, xc, xd] .unk (by decide)
 rw [ex_eqs] at q
 exact .weak q
theorem ex_dist_is (c : Cp) : PureIs prog 20 [.ag exC, .sl false (exL ++ [fA 3 1 0 0 0 0]) c] (.tu [.sl false [iA 0, iA 1, iA 1, iA 3, iA 3] .full, .sc (.int .i64 0)]) := by
 have q := distinct_is exM ex_rows ex_noNil false [xa, xb, xc, xd, ⟨3, 1, 0, 0, 0, 0⟩] .unk (by decide)
 rw [ex_dist] at q
 exact .weak q
theorem ex_least_is : PureIs prog 26 [.ag exC, wsC, .sl false exL .full] (.tu [.sl false [iA 1] .full, .sc (.int .i64 0)]) := by
 have q := least_is exM ex_rows ex_noNil false xWs .unk ex_ws (by decide) false [xa, xb, xc, xd] .unk (by decide)
 rw [ex_least] at q
 exact .weak q
theorem ex_sub1_is : PureIs prog 38 [.ag exC, wsC, .ag (fA 0 0 0 0 0 1), .ag (fA 0 1 0 0 0 0)] (.tu [.sc (.bool false), .sc (.int .i64 0)]) := by
 have q := subsumes_is exM ex_rows ex_noNil false xWs .unk ex_ws (by decide) xa xb
 rw [ex_sub1] at q
 exact .weak q
theorem ex_sub2_is : PureIs prog 38 [.ag exC, wsC, .ag (fA 0 1 0 0 0 0), .ag (fA 0 0 0 0 0 1)] (.tu [.sc (.bool true), .sc (.int .i64 0)]) := by
 have q := subsumes_is exM ex_rows ex_noNil false xWs .unk ex_ws (by decide) xb xa
 rw [ex_sub2] at q
 exact .weak q
theorem ex_sub3_is : PureIs prog 38 [.ag exC, wsC, .ag (fA 0 1 0 0 0 0), .ag (fA 1 0 0 0 0 0)] (.tu [.sc (.bool true), .sc (.int .i64 0)]) := by
 have q := subsumes_is exM ex_rows ex_noNil false xWs .unk ex_ws (by decide) xb xc
 rw [ex_sub3] at q
 exact .weak q
theorem ex_sub4_is : PureIs prog 38 [.ag exC, wsC, .ag (fA 3 0 0 1 0 0), .ag (fA 0 0 0 0 0 1)] (.tu [.sc (.bool false), .sc (.int .i64 0)]) := by
 have q := subsumes_is exM ex_rows ex_noNil false xWs .unk ex_ws (by decide) xd xa
 rw [ex_sub4] at q
 exact .weak q
set_option maxHeartbeats 4000000 in
theorem lives_is : PureIs prog 12 [] (.sc (.bool true)) := by
 refine PureIs.of1 8 [9, 11, 12, 13, 15, 16, 17, 18, 19, 20, 21, 22, 23, 24, 25, 26, 27, 123, 201] func12 ntmps12 results12 fun _ => ?_
 refine EvC.a ?_
 refine EvC.a ?_
 refine EvC.z 7 ?_
 refine EvC.a ?_
 refine EvC.z 10 ?_
 refine EvC.a ?_
 refine EvC.z 13 ?_
 refine EvC.a ?_
 refine EvC.z 16 ?_
 refine EvC.a ?_
 refine EvC.z 19 ?_
 refine EvC.k1 ?_ (c1 := .ca ex_both1_is)
 refine EvC.z 29 ?_
 refine EvC.k1 ?_ (c1 := .ca ex_both2_is)
 refine EvC.k1 ?_ (c1 := .ca ex_both3_is)
 refine EvC.k1 ?_ (c1 := .ca ex_pairs1_is)
 refine EvC.k1 ?_ (c1 := .ca ex_pairs2_is)
 refine EvC.a ?_
 refine EvC.z 76 ?_
 refine EvC.a ?_
 refine EvC.z 79 ?_
 refine EvC.a ?_
 refine EvC.z 82 ?_
 refine EvC.seq ?_
 refine EvC.k2 ?_ (c1 := .cg ex_same_is) (c2 := .cg ex_pairsEq_is)
 refine EvC.cs ?_
 refine EvC.a ?_
 refine EvC.a ?_
 refine EvC.k1 ?_ (c1 := .ca ex_eqs_is)
 have hr5 : room 5 48 = true := by simp only [room_eq, decide_eq_true_eq]; omega
 refine EvC.k1D mixed ?_ (k1 := by simp [hr5]) (c1 := .ca (ex_dist_is _))
 refine EvC.k1 ?_ (c1 := .ca ex_least_is)
 refine EvC.seq ?_
 refine EvC.k2 ?_ (c1 := .cg (intsEq_is false false [0, 1, 1, 3, 3] .full (by decide))) (c2 := .cg (intsEq_is false false [1] .full (by decide)))
 refine EvC.cs ?_
 refine EvC.k1 ?_ (c1 := .ca ex_sub1_is)
 refine EvC.k1 ?_ (c1 := .ca ex_sub2_is)
 refine EvC.k1 ?_ (c1 := .ca ex_sub3_is)
 refine EvC.k1 ?_ (c1 := .ca ex_sub4_is)
 refine EvC.g ?_
 refine EvC.rz ?_
 simp only [go_sem]
theorem Valid.check {m : Mach} (h : Valid m) : checkM m = 0 := by
 have h1 := h.ins
 have h2 := h.outs
 have h3 := h.rows
 unfold checkM
 rw [if_neg (by omega), if_neg (by omega), if_pos]
 rw [List.all_eq_true]
 intro r hr
 obtain ⟨k1, k2⟩ := h.row r hr
 simp only [rowOk, Bool.and_eq_true, decide_eq_true_eq, Bool.not_eq_true', List.any_eq_false]
 exact ⟨k1, fun e he => by simpa using k2 e he⟩
theorem egS_len2 {m : Mach} {K : Nat} (h : m.ins.toNat ≤ K) : ∀ n, (egS m n).length ≤ n * K
 | 0 => by rw [Nat.zero_mul]; exact Nat.le_refl _
 | n + 1 => by
   have h1 := egS_len2 h n
   have h2 := egI_len m n m.ins.toNat
   rw [egS, List.length_append, Nat.add_one_mul]; omega
theorem alF_len2 {m : Mach} (hv : Valid m) (h : m.ins.toNat ≤ 3) (hr : m.rows.length ≤ 6) : ∀ ks : List Int, (alF m ks).length ≤ ks.length * 4608
 | [] => Nat.le_refl _
 | k :: ks => by
   have h1 := alF_len2 hv h hr ks
   have h2 := alE_len hv k (egL m)
   have h4 := egS_len2 h m.rows.length
   have h3 : alF m (k :: ks) = alE m k (egL m) ++ alF m ks := by simp [alF]
   have h5 : (egL m).length = (egS m m.rows.length).length := rfl
   rw [h3, List.length_append, List.length_cons]; omega
theorem kindR5 (x : Int) : kindR x 5 = (if bit8 x 0 then [0] else []) ++ (if bit8 x 1 then [1] else []) ++ (if bit8 x 2 then [2] else []) ++ (if bit8 x 3 then [3] else []) ++ (if bit8 x 4 then [4] else []) := by
 unfold kindR
 rw [show List.range 5 = [0, 1, 2, 3, 4] from rfl]
 cases h0 : bit8 x 0 <;> cases h1 : bit8 x 1 <;> cases h2 : bit8 x 2 <;> cases h3 : bit8 x 3 <;> cases h4 : bit8 x 4 <;> simp [List.filter, h0, h1, h2, h3, h4]
theorem kindR_last (x : Int) : ∃ l, kLast (kindR x 5) (-1) = some l := by
 rw [kindR5]
 cases bit8 x 0 <;> cases bit8 x 1 <;> cases bit8 x 2 <;> cases bit8 x 3 <;> cases bit8 x 4 <;> exact ⟨_, rfl⟩
theorem LM.small {x : LM} (h : x.Ok) : x.mach.rows.length ≤ 6 ∧ x.mach.ins ≤ 3 := by
 obtain ⟨b1, b2, b3, b4, b5, b6, -, -⟩ := LM.bounds h
 rw [show x.mach.rows.length = x.n by simp [LM.mach]]
 exact ⟨b2, by show (x.i : Int) ≤ 3; omega⟩
theorem LM.noNil (x : LM) : NoNil x.mach := fun r hr h => by
 simp only [LM.mach, List.mem_map] at hr
 obtain ⟨s, _, rfl⟩ := hr
 cases h
def rowsP (m : Mach) : List (List (Int × Int)) := m.rows.map (·.2)
def getP (P : List (List (Int × Int))) (s i : Nat) : Int × Int := (P[s]?.getD [])[i]?.getD (-1, -1)
def putP (P : List (List (Int × Int))) (s i : Nat) (e : Int × Int) : List (List (Int × Int)) := P.set s ((P[s]?.getD []).set i e)
theorem stepM_P (m : Mach) (s a : Int) : stepM m s a = getP (rowsP m) s.toNat a.toNat := by
 unfold stepM getP rowsP
 rw [List.getElem?_map]
theorem rowAt_P (m : Mach) (s : Int) : rowAt m s = (rowsP m)[s.toNat]?.getD [] := by
 unfold rowAt rowsP
 rw [List.getElem?_map]
theorem putR_P (m : Mach) (s i : Int) (e : Int × Int) : (putR m s i e).map (·.2) = putP (rowsP m) s.toNat i.toNat e := by
 unfold putR putP copyR
 rw [List.map_set, rowAt_P, List.map_map]; rfl
theorem getP_put {P : List (List (Int × Int))} {s i s' i' : Nat} {e : Int × Int} (h : s ≠ s' ∨ i ≠ i') : getP (putP P s i e) s' i' = getP P s' i' := by
 unfold getP putP
 by_cases hs : s = s'
 ·subst hs
  have hi : i ≠ i' := h.resolve_left fun h => h rfl
  by_cases hl : s < P.length
  ·rw [List.getElem?_set_self hl]
   simp only [Option.getD_some]
   rw [List.getElem?_set_ne hi]
  ·rw [List.set_eq_of_length_le (by omega)]
 ·rw [List.getElem?_set_ne hs]
theorem putP_comm {P : List (List (Int × Int))} {s i s' i' : Nat} {e e' : Int × Int} (h : s ≠ s' ∨ i ≠ i') : putP (putP P s i e) s' i' e' = putP (putP P s' i' e') s i e := by
 unfold putP
 by_cases hs : s = s'
 ·subst hs
  have hi : i ≠ i' := h.resolve_left fun h => h rfl
  by_cases hl : s < P.length
  ·rw [List.getElem?_set_self hl, List.getElem?_set_self hl]
   simp only [Option.getD_some]
   rw [List.set_set, List.set_set, List.set_comm _ _ hi]
  ·have hx : ∀ r, P.set s r = P := fun r => List.set_eq_of_length_le (by omega)
   simp only [hx]
 ·rw [List.getElem?_set_ne hs, List.getElem?_set_ne (fun h => hs h.symm), List.set_comm _ _ hs]
def edgeF (m : Mach) (f : FA) : Int × Int := if f.kind = 0 then ((stepM m f.state f.input).1, f.out) else if f.kind = 1 then (f.to, (stepM m f.state f.input).2) else (-1, -1)
theorem mutP (m : Mach) {f : FA} (h : 0 ≤ f.kind ∧ f.kind < 3) : rowsP (mutF m f) = putP (rowsP m) f.state.toNat f.input.toNat (edgeF m f) := by
 show (mutRows m f).map (·.2) = _
 unfold mutRows edgeF
 obtain h0 | h0 | h0 : f.kind = 0 ∨ f.kind = 1 ∨ f.kind = 2 := by omega
 ·rw [if_pos h0, if_pos h0, putR_P]
 ·rw [if_neg (by omega), if_pos h0, if_neg (by omega), if_pos h0, putR_P]
 ·rw [if_neg (by omega), if_neg (by omega), if_pos h0, if_neg (by omega), if_neg (by omega), putR_P]
theorem mutF_rows (m : Mach) {f : FA} (h : 0 ≤ f.kind ∧ f.kind < 3) : (mutF m f).rows.length = m.rows.length := by
 have := congrArg List.length (mutP m h)
 unfold rowsP putP at this
 rw [List.length_map, List.length_set, List.length_map] at this
 exact this
structure PairOk (m : Mach) (f g : FA) : Prop where
 okf : faultB m f = true
 okg : faultB m g = true
 fk : f.kind < 3
 gk : g.kind < 3
 lt : ltE f g = true
theorem faultB_place {m : Mach} {f : FA} (h : faultB m f = true) : (0 ≤ f.kind ∧ f.kind ≤ 4) ∧ (0 ≤ f.state ∧ f.state < m.rows.length) ∧ 0 ≤ f.input ∧ f.input < m.ins := by
 unfold faultB at h
 simp only [Bool.and_eq_true] at h
 obtain ⟨h1, h2, _⟩ := h
 obtain ⟨a, b, _⟩ := definedB_iff.1 h2
 have := plainB_kind h1
 exact ⟨by omega, a, b⟩
theorem PairOk.ne {m : Mach} {f g : FA} (h : PairOk m f g) : f.state.toNat ≠ g.state.toNat ∨ f.input.toNat ≠ g.input.toNat := by
 have h1 := faultB_place h.okf
 have h2 := faultB_place h.okg
 have h3 := ltE_iff.1 h.lt
 omega
theorem PairOk.ne' {m : Mach} {f g : FA} (h : PairOk m f g) : g.state.toNat ≠ f.state.toNat ∨ g.input.toNat ≠ f.input.toNat := by
 have := h.ne; omega
theorem step_mut {m : Mach} {f : FA} (h : 0 ≤ f.kind ∧ f.kind < 3) {s i : Int} (hn : f.state.toNat ≠ s.toNat ∨ f.input.toNat ≠ i.toNat) : stepM (mutF m f) s i = stepM m s i := by
 rw [stepM_P, mutP m h, getP_put hn, stepM_P]
theorem fault_mut {m : Mach} {f g : FA} (h : 0 ≤ f.kind ∧ f.kind < 3) (hg : 0 ≤ g.kind ∧ g.kind < 3) (hn : f.state.toNat ≠ g.state.toNat ∨ f.input.toNat ≠ g.input.toNat) : faultB (mutF m f) g = faultB m g := by
 have e1 : definedB (mutF m f) g.state g.input = definedB m g.state g.input := by
  unfold definedB
  rw [step_mut h hn, mutF_rows m h]; rfl
 have e2 : kindB (mutF m f) g = kindB m g := by
  unfold kindB
  rw [step_mut h hn, mutF_rows m h]
  obtain h0 | h0 | h0 : g.kind = 0 ∨ g.kind = 1 ∨ g.kind = 2 := by omega
  ·rw [if_pos h0, if_pos h0]; rfl
  ·rw [if_neg (by omega), if_pos h0, if_neg (by omega), if_pos h0]
  ·rw [if_neg (by omega), if_neg (by omega), if_pos h0, if_neg (by omega), if_neg (by omega), if_pos h0]
 unfold faultB
 rw [e1, e2]
theorem checkF_ok {m : Mach} {f : FA} (h : faultB m f = true) (hk : f.kind < 3) : checkF m f = 0 := by
 unfold checkF
 rw [if_pos h, if_neg (by omega)]
theorem PairOk.check {m : Mach} {f g : FA} (h : PairOk m f g) : checkF m f = 0 ∧ checkF m g = 0 ∧ checkF (mutF m f) g = 0 ∧ faultB (mutF m f) g = true ∧ faultB (mutF m g) f = true := by
 have hf := faultB_place h.okf
 have hg := faultB_place h.okg
 have fk := h.fk
 have gk := h.gk
 have h1 : faultB (mutF m f) g = true := by rw [fault_mut (by omega) (by omega) h.ne]; exact h.okg
 have h2 : faultB (mutF m g) f = true := by rw [fault_mut (by omega) (by omega) h.ne']; exact h.okf
 exact ⟨checkF_ok h.okf fk, checkF_ok h.okg gk, checkF_ok h1 gk, h1, h2⟩
theorem PairOk.same {m : Mach} {f g : FA} (h : PairOk m f g) : (mutF (mutF m f) g).rows.map (·.2) = (mutF (mutF m g) f).rows.map (·.2) := by
 have hf := faultB_place h.okf
 have hg := faultB_place h.okg
 have fk := h.fk
 have gk := h.gk
 show rowsP _ = rowsP _
 rw [mutP _ (by omega), mutP _ (by omega), mutP _ (by omega), mutP _ (by omega), putP_comm h.ne]
 have e1 : edgeF (mutF m f) g = edgeF m g := by unfold edgeF; rw [step_mut (by omega) h.ne]
 have e2 : edgeF (mutF m g) f = edgeF m f := by unfold edgeF; rw [step_mut (by omega) h.ne']
 rw [e1, e2]
theorem PairOk.both {m : Mach} (hv : Valid m) {f g : FA} (h : PairOk m f g) : bothA m (f, g) = .tu [.ag (mutF (mutF m f) g).cells, .sc (.int .i64 0)] := by
 obtain ⟨c1, c2, c3, _, _⟩ := h.check
 have fk := h.fk
 have gk := h.gk
 have hlt : edgeI f g < 0 := by have := edgeI_lt f g; rw [h.lt] at this; simpa using this
 have e : bothE m (f, g) = 0 := by
  unfold bothE
  rw [if_neg (by rw [hv.check]; simp), if_neg (by simp only [c1]; simp), if_neg (by simp only [c2]; simp), if_neg]
  simp only
  split <;> omega
 unfold bothA
 rw [if_neg (by rw [e]; simp)]
 simp only [applyR]
 rw [if_pos c3]
theorem edgeI_zero {f g : FA} : edgeI f g = 0 ↔ f.state = g.state ∧ f.input = g.input := by
 simp only [edgeI, orR, cmpJ]
 by_cases h1 : f.state < g.state
 ·simp [h1]; omega
 by_cases h2 : g.state < f.state
 ·simp [h1, h2, show ¬ f.state = g.state by omega]
 by_cases h3 : f.input < g.input
 ·simp [h1, h2, h3]; omega
 by_cases h4 : g.input < f.input
 ·simp [h1, h2, h3, h4]; omega
 ·simp [h1, h2, h3, h4]; omega
theorem prs_flat {L : List FA} (hL : SrtE L) (hk : ∀ f ∈ L, f.kind < 3) : ∀ (suf pre : List FA), pre ++ suf = L → (suf.flatMap fun f => prR f L) = prs suf
 | [], _, _ => rfl
 | f :: suf, pre, h => by
   have ih := prs_flat hL hk suf (pre ++ [f]) (by rw [List.append_assoc]; exact h)
   rw [List.flatMap_cons, ih, prs]
   congr 1
   have hm : f ∈ L := by rw [← h]; simp
   have hs := hL
   rw [← h] at hs
   obtain ⟨_, hs2, hs3⟩ := List.pairwise_append.1 hs
   have hs4 := (List.pairwise_cons.1 hs2).1
   unfold prR prsOf
   congr 1
   rw [← h, List.filter_append, List.filter_cons]
   have e1 : pre.filter (fun g => isPairB (f, g)) = [] := by
    rw [List.filter_eq_nil_iff]
    intro g hg hp
    have h1 := leE_iff.1 (hs3 g hg f List.mem_cons_self)
    unfold isPairB at hp
    simp only [Bool.and_eq_true, Bool.or_eq_true, decide_eq_true_eq] at hp
    omega
   have e2 : isPairB (f, f) = false := by
    unfold isPairB
    simp
   rw [e1, e2, List.nil_append, if_neg (by simp)]
   apply List.filter_congr
   intro g hg
   have h1 := leE_iff.1 (hs4 g hg)
   have hgm : g ∈ L := by rw [← h]; simp [hg]
   have k1 := hk f hm
   have k2 := hk g hgm
   rw [Bool.eq_iff_iff]
   unfold isPairB
   simp only [Bool.and_eq_true, Bool.or_eq_true, decide_eq_true_eq, Bool.not_eq_true', decide_eq_false_iff_not, edgeI_zero]
   omega
theorem prS_all (L : List FA) : prS L L.length = L.flatMap fun f => prR f L := by rw [prS, List.take_length]
theorem prs_eq {L : List FA} (hL : SrtE L) (hk : ∀ f ∈ L, f.kind < 3) : prS L L.length = prs L := by
 rw [prS_all]; exact prs_flat hL hk L [] rfl
theorem prS_mem {L : List FA} {i : Nat} {p : FA × FA} (h : p ∈ prS L i) : p.1 ∈ L ∧ p.2 ∈ L ∧ isPairB p = true := by
 unfold prS at h
 obtain ⟨f, hf, hp⟩ := List.mem_flatMap.1 h
 unfold prR at hp
 obtain ⟨g, hg, rfl⟩ := List.mem_map.1 hp
 rw [List.mem_filter] at hg
 exact ⟨List.mem_of_mem_take hf, hg.1, hg.2⟩
theorem egF_eq (l : List FA) (s i : Nat) : egF l s i = l.filter (atE s i) := rfl
theorem byI_fil (l : List FA) (s : Nat) (a b : Int) : ∀ n, (byI l s n).filter (atE a b) = if a = s ∧ 0 ≤ b ∧ b < n then l.filter (atE a b) else []
 | 0 => by rw [if_neg (by omega)]; rfl
 | n + 1 => by
   rw [byI_succ, List.filter_append, byI_fil l s a b n, egF_eq, List.filter_filter]
   by_cases h : a = s ∧ b = n
   ·obtain ⟨rfl, rfl⟩ := h
    rw [if_neg (by omega), if_pos (by omega), List.nil_append]
    congr 1; funext f; simp
   ·have e : (l.filter fun f => atE a b f && atE s n f) = [] := by
      rw [List.filter_eq_nil_iff]
      intro f _ hf
      rw [Bool.and_eq_true, atE_iff, atE_iff] at hf
      omega
    rw [e, List.append_nil]
    by_cases h2 : a = s ∧ 0 ≤ b ∧ b < n
    ·rw [if_pos h2, if_pos (by omega)]
    ·rw [if_neg h2, if_neg (by omega)]
theorem byS_fil (l : List FA) (n : Nat) (a b : Int) : ∀ s, (byS l n s).filter (atE a b) = if (0 ≤ a ∧ a < s) ∧ 0 ≤ b ∧ b < n then l.filter (atE a b) else []
 | 0 => by rw [if_neg (by omega)]; rfl
 | s + 1 => by
   rw [byS_succ, List.filter_append, byS_fil l n a b s, byI_fil]
   by_cases h : a = s
   ·subst h
    rw [if_neg (by omega), List.nil_append]
    by_cases h2 : 0 ≤ b ∧ b < n
    ·rw [if_pos ⟨rfl, h2⟩, if_pos (by omega)]
    ·rw [if_neg (by omega), if_neg (by omega)]
   ·rw [if_neg (show ¬(a = s ∧ 0 ≤ b ∧ b < n) by omega), List.append_nil]
    by_cases h2 : (0 ≤ a ∧ a < s) ∧ 0 ≤ b ∧ b < n
    ·rw [if_pos h2, if_pos (by omega)]
    ·rw [if_neg h2, if_neg (by omega)]
theorem egF_mem {l : List FA} {s i : Nat} {f : FA} (h : f ∈ egF l s i) : f.state = s ∧ f.input = i := by
 rw [egF_eq, List.mem_filter, atE_iff] at h; exact h.2
theorem byI_mem {l : List FA} {s n : Nat} {f : FA} (h : f ∈ byI l s n) : f.state = s ∧ f.input < n := by
 unfold byI at h
 obtain ⟨i, hi, hf⟩ := List.mem_flatMap.1 h
 have := egF_mem hf
 rw [List.mem_range] at hi
 omega
theorem byS_mem {l : List FA} {n s : Nat} {f : FA} (h : f ∈ byS l n s) : f.state < s := by
 unfold byS at h
 obtain ⟨i, hi, hf⟩ := List.mem_flatMap.1 h
 have := byI_mem hf
 rw [List.mem_range] at hi
 omega
theorem byI_srt (l : List FA) (s : Nat) : ∀ n, SrtE (byI l s n)
 | 0 => List.Pairwise.nil
 | n + 1 => by
   rw [byI_succ]
   refine List.pairwise_append.2 ⟨byI_srt l s n, ?_, fun x hx y hy => ?_⟩
   ·rw [List.pairwise_iff_forall_sublist]
    intro x y h
    have hx := egF_mem (h.subset (List.mem_cons_self))
    have hy := egF_mem (h.subset (List.mem_cons_of_mem _ List.mem_cons_self))
    rw [leE_iff]; omega
   ·have hx := byI_mem hx
    have hy := egF_mem hy
    rw [leE_iff]; omega
theorem byS_srt (l : List FA) (n : Nat) : ∀ s, SrtE (byS l n s)
 | 0 => List.Pairwise.nil
 | s + 1 => by
   rw [byS_succ]
   refine List.pairwise_append.2 ⟨byS_srt l n s, byI_srt l s n, fun x hx y hy => ?_⟩
   have hx := byS_mem hx
   have hy := byI_mem hy
   rw [leE_iff]; omega
theorem byE_srt {m : Mach} {l : List FA} (hi : 0 ≤ m.ins) (h : ∀ f ∈ l, (0 ≤ f.state ∧ f.state < m.rows.length) ∧ 0 ≤ f.input ∧ f.input < m.ins) : byE m l = srtE l := by
 refine srtE_eq (byS_srt _ _ _) fun s i => ?_
 unfold byE
 rw [byS_fil]
 by_cases hc : (0 ≤ s ∧ s < m.rows.length) ∧ 0 ≤ i ∧ i < (m.ins.toNat : Nat)
 ·rw [if_pos hc]
 ·rw [if_neg hc]
  symm
  rw [List.filter_eq_nil_iff]
  intro f hf ha
  have := h f hf
  rw [atE_iff] at ha
  omega
theorem kinds8 : ∀ b : Int, 0 ≤ b ∧ b < 8 → ∀ k ∈ kindR b 5, 0 ≤ k ∧ k ≤ 2 := by
 intro b hb
 obtain rfl | rfl | rfl | rfl | rfl | rfl | rfl | rfl : b = 0 ∨ b = 1 ∨ b = 2 ∨ b = 3 ∨ b = 4 ∨ b = 5 ∨ b = 6 ∨ b = 7 := by omega
 all_goals decide
theorem kindR_len5 (x : Int) : (kindR x 5).length ≤ 5 := by
 unfold kindR
 rw [List.length_map]
 exact List.length_filter_le _ _
theorem small_all {m : Mach} (hv : Valid m) (h6 : m.rows.length ≤ 6) (h3 : m.ins ≤ 3) (b : Int) : (alF m (kindR b 5)).length ≤ 23040 := by
 have h1 := alF_len2 hv (by omega) h6 (kindR b 5)
 have h2 := kindR_len5 b
 omega
theorem kind_small {m : Mach} (hv : Valid m) {b : Int} (hb : 0 ≤ b ∧ b < 8) : ∀ f ∈ srtE (alF m (kindR b 5)), faultB m f = true ∧ f.kind < 3 := fun f hf => by
 rw [srtE_mem] at hf
 have hk := kinds8 b hb
 obtain ⟨h1, h2⟩ := faK_kind hv (fun k hk1 => by have := hk k hk1; omega) hf
 have := hk _ h2
 exact ⟨h1, by omega⟩
theorem prs_ref {m : Mach} (hv : Valid m) {b : Int} (hb : 0 ≤ b ∧ b < 8) : byE m (allF m (kindR b 5)) = srtE (alF m (kindR b 5)) ∧ prs (srtE (alF m (kindR b 5))) = refPrs m (kindR b 5) := by
 have hk := kinds8 b hb
 have e1 : allF m (kindR b 5) = alF m (kindR b 5) := allF_alF hv fun k hk1 => by have := hk k hk1; omega
 have hi := hv.ins
 have e2 : byE m (alF m (kindR b 5)) = srtE (alF m (kindR b 5)) := byE_srt (by omega) fun f hf => (faultB_place (kind_small hv hb f (srtE_mem.2 hf)).1).2
 refine ⟨by rw [e1, e2], ?_⟩
 unfold refPrs
 rw [e1, e2, prs_eq (srtE_srt _) fun f hf => (kind_small hv hb f hf).2]
theorem pairs_says {m : Mach} (hv : Valid m) (h6 : m.rows.length ≤ 6) (h3 : m.ins ≤ 3) {b : Int} (hb : 0 ≤ b ∧ b < 8) (n : Int) (hn : 0 ≤ n ∧ n < 65536) :
  pairsA m (kindR b 5) n = if n < (refPrs m (kindR b 5)).length then .tu [.sl true [] .unk, .sc (.int .i64 13)] else .tu [.sl (refPrs m (kindR b 5)).isEmpty ((refPrs m (kindR b 5)).map prC) .full, .sc (.int .i64 0)] := by
 have hk := kinds8 b hb
 have hla := small_all hv h6 h3 b
 obtain ⟨l, hl⟩ := kindR_last b
 have hr := hv.rows
 have e1 : readyR m (kindR b 5) 65536 = 0 := by
  unfold readyR
  rw [if_neg (by rw [hv.check]; simp), hl]
  simp only
  rw [if_neg (by decide), if_neg (by omega)]
 have e2 : allR m (kindR b 5) 65536 = 0 := by
  unfold allR
  rw [if_neg (by rw [e1]; simp), if_neg (by omega)]
 have e3 : pairsE m (kindR b 5) n = if n < (refPrs m (kindR b 5)).length then 13 else 0 := by
  unfold pairsE
  rw [if_neg (by rw [hv.check]; simp), if_neg, if_neg (by rw [e2]; simp), (prs_ref hv hb).2]
  rintro (h | h | ⟨k, h1, h2⟩)
  ·omega
  ·omega
  ·have := hk k (List.mem_of_getLast? h1); omega
 unfold pairsA
 rw [e3, (prs_ref hv hb).2]
 by_cases h : n < (refPrs m (kindR b 5)).length
 ·rw [if_pos h, if_pos h, if_pos (by simp)]
 ·rw [if_neg h, if_neg h, if_neg (by simp)]
theorem refPrs_ok {m : Mach} (hv : Valid m) {b : Int} (hb : 0 ≤ b ∧ b < 8) {p : FA × FA} (h : p ∈ refPrs m (kindR b 5)) : PairOk m p.1 p.2 := by
 unfold refPrs at h
 rw [(prs_ref hv hb).1] at h
 obtain ⟨h1, h2, h3⟩ := prS_mem h
 obtain ⟨a1, a2⟩ := kind_small hv hb _ h1
 obtain ⟨b1, b2⟩ := kind_small hv hb _ h2
 refine ⟨a1, b1, a2, b2, ltE_iff.2 ?_⟩
 unfold isPairB at h3
 simp only [Bool.and_eq_true, Bool.or_eq_true, decide_eq_true_eq] at h3
 exact h3.2
set_option maxHeartbeats 4000000 in
theorem ordersPairs_is {x : LM} (hx : x.Ok) (bits : Int) (hb : 0 ≤ bits ∧ bits < 256) (z0 z1 : Int) (h0 : 0 ≤ z0 ∧ z0 < 65536) (h1 : 0 ≤ z1 ∧ z1 < 65536) :
  PureIs prog 3 [.ag x.cells, .sc (.int .u8 bits), .ag [.sc (.int .u16 z0), .sc (.int .u16 z1)]] (.sc (.bool true)) := by
 have hv := LM.valid hx
 obtain ⟨h6, h3⟩ := LM.small hx
 have hnn := LM.noNil x
 have hmo := mOf_is hx
 rw [LM.cells] at hmo ⊢
 generalize x.mach = m at hv h6 h3 hnn hmo
 have hms := hv.small
 obtain ⟨b, hbe⟩ : ∃ b, b = bits % 8 := ⟨_, rfl⟩
 have hb8 : 0 ≤ b ∧ b < 8 := by omega
 have htm : bits % 8 = b := hbe.symm
 have hk5 := kindR_len5 b
 have qk := kinds_is b (by omega)
 have hla := small_all hv h6 h3 b
 have q1 := refPairs_is hv (kindR b 5).isEmpty (kindR b 5) .unk (by omega) (by rw [allF_alF hv fun k hk1 => by have := kinds8 b hb8 k hk1; omega]; omega) (by rw [(prs_ref hv hb8).1, srtE_len]; omega)
 have q2 := pairs_is m hms (kindR b 5).isEmpty (kindR b 5) .unk (by omega) z0
 rw [pairs_says hv h6 h3 hb8 z0 h0] at q2
 have hok := fun p => refPrs_ok (p := p) hv hb8
 generalize refPrs m (kindR b 5) = L at q1 q2 hok
 have hPn := pairs_norefs L
 have hPl : (L.map prC).length = L.length := List.length_map _
 refine PureIs.of1 4 [5, 6, 7, 8, 9, 10, 11, 12, 13, 14, 15, 37, 55, 58] func3 ntmps3 results3 fun _ => ?_
 refine EvC.a ?_
 refine EvC.z 0 ?_
 refine EvC.z 1 ?_
 refine EvC.k1 ?_ (c1 := .ca hmo) (h2 := by simp only [go_sem, Mach.cells] <;> rfl)
 refine EvC.z 5 ?_
 refine EvC.k1 ?_ (h1 := by simp only [go_sem, htm] <;> rfl) (k1 := by simp [hb.1]) (c1 := .ca qk)
 refine EvC.k1 ?_ (h1 := by simp only [go_sem, Mach.cells] <;> rfl) (c1 := .ca q1) (h2 := by simp only [go_sem, Mach.cells, hPn] <;> rfl) (k2 := by simp [hPn])
 refine EvC.a ?_ (by simp only [go_sem, hPn] <;> rfl) (by exact inI64_of (by omega) (by omega))
 by_cases hc : z0 < (L.length : Int)
 ·rw [if_pos hc] at q2
  refine EvC.k1 ?_ (h1 := by simp only [go_sem, Mach.cells, hPn] <;> rfl) (c1 := .ca q2) (h2 := by simp only [go_sem, hPn] <;> rfl) (k2 := by simp [hPn])
  refine EvC.seq ?_
  refine EvC.a ?_ (by simp only [go_sem, hPl, decide_eq_true hc] <;> rfl)
  refine EvC.ct ?_
  refine EvC.k1 ?_ (c1 := .cg lives_is)
  refine EvC.rz ?_
  simp only [go_sem]
 rw [if_neg hc] at q2
 refine EvC.k1 ?_ (h1 := by simp only [go_sem, Mach.cells, hPn] <;> rfl) (c1 := .ca q2) (h2 := by simp only [go_sem, hPn] <;> rfl) (k2 := by simp [hPn])
 refine EvC.seq ?_
 refine EvC.a ?_ (by simp only [go_sem, hPl, decide_eq_false hc] <;> rfl)
 refine EvC.cs ?_
 refine EvC.seq ?_
 refine EvC.k1 ?_ (h1 := by simp only [go_sem, hPn, hPl] <;> rfl) (c1 := .cg (pairsEq_is L.isEmpty L.isEmpty L .unk (by omega)))
 refine EvC.cs ?_
 refine EvC.seq ?_
 refine EvC.a ?_ (by simp only [go_sem, hPl] <;> rfl)
 by_cases h00 : L.length = 0
 ·refine EvC.ct ?_ (by simp only [go_sem, h00, Int.natCast_zero] <;> rfl)
  refine EvC.k1 ?_ (c1 := .ca lives_is)
  refine EvC.rz ?_
  simp only [go_sem]
 refine EvC.cs ?_ (by simp only [go_sem, decide_eq_false (show ¬ (L.length : Int) = 0 by omega)] <;> rfl)
 have hne : (L.length : Int) ≠ 0 := by omega
 have ht : 0 ≤ z1 % (L.length : Int) := Int.emod_nonneg _ hne
 have ht2 : z1 % (L.length : Int) < L.length := Int.emod_lt_of_pos _ (by omega)
 obtain ⟨k, hk⟩ : ∃ k : Nat, (k : Int) = z1 % (L.length : Int) := ⟨(z1 % (L.length : Int)).toNat, by omega⟩
 have hkl : k < L.length := by omega
 have hge : L[k]? = some (L[k]'hkl) := List.getElem?_eq_getElem hkl
 have hpo := hok _ (List.getElem_mem hkl)
 generalize L[k]'hkl = p at hge hpo
 obtain ⟨f, g⟩ := p
 simp only at hpo
 have hgc : (L.map prC)[k]? = some [.sc (.int .i64 f.kind), .sc (.int .i64 f.state), .sc (.int .i64 f.input), .sc (.int .i64 f.to), .sc (.int .i64 f.at'), .sc (.int .i64 f.out), .sc (.int .i64 g.kind), .sc (.int .i64 g.state), .sc (.int .i64 g.input), .sc (.int .i64 g.to), .sc (.int .i64 g.at'), .sc (.int .i64 g.out)] := by rw [List.getElem?_map, hge]; rfl
 have hkt : (k : Int).toNat = k := Int.toNat_natCast k
 have hI : inI64 z1 = true := inI64_of (by omega) (by omega)
 refine EvC.a ?_ (by simp only [go_sem, hgc, hPl, ← hk, hkt, hI, decide_eq_false hne] <;> rfl) (by simp [hI, hne, h1.1]; try omega)
 refine EvC.z 52 ?_
 obtain ⟨c1, c2, c3, c4, c5⟩ := hpo.check
 have q3 := pairBoth_is m hms hnn (f, g)
 rw [hpo.both hv] at q3
 have q4 := apply55_is hv g hpo.okg
 have q5 := apply55_is (mutF_valid hv c2) f c5
 have q6 := refBoth_is hv (f, g) hpo.okf (mutF_valid hv c1) c4
 have hv2 := mutF_valid (mutF_valid hv c1) c3
 have q7 := sameM_is (a := mutF (mutF m f) g) (b := mutF (mutF m f) g) rfl rfl rfl (by have := hv2.rows; omega) hv2.small
 have q8 := sameM_is (a := mutF (mutF m f) g) (b := mutF (mutF m g) f) rfl rfl hpo.same (by have := hv2.rows; omega) hv2.small
 simp only at q6
 have hUn : AV.norefs (mutF (mutF m f) g).cells = true := norefs_mcells _
 have hGn : AV.norefs (mutF m g).cells = true := norefs_mcells _
 have hVn : AV.norefs (mutF (mutF m g) f).cells = true := norefs_mcells _
 generalize mutF (mutF m g) f = V at q5 q8 hVn
 generalize mutF m g = G at q4 q5 hGn
 generalize mutF (mutF m f) g = U at q3 q6 q7 q8 hUn
 clear hok hpo hv2 c1 c2 c3 c4 c5
 simp only [prC, FA.cells, Mach.cells, List.cons_append, List.nil_append] at q3 q4 q5 q6 q7 q8 hUn hVn hGn
 refine EvC.k1 ?_ (h1 := by simp only [go_sem, Mach.cells] <;> rfl) (c1 := .ca q3)
 refine EvC.z 60 ?_
 apply EvC.seq
 apply EvC.drwA mixed
 ·apply Tr.run
  ·simp only [go_sem, Mach.cells] <;> rfl
  ·simp
  apply Tr.cons
  ·exact .ca (q4)
  apply Tr.run
  ·simp only [go_sem, Mach.cells] <;> rfl
  ·simp
  apply Tr.cons
  ·exact .ca (q5)
  apply Tr.done
  ·simp only [go_sem, hGn, hVn] <;> rfl
  ·simp
 ·kernel_rfl
 refine EvC.z 70 ?_
 apply EvC.seq
 apply EvC.drw mixed
 ·apply Tr.run
  ·simp only [go_sem, Mach.cells] <;> rfl
  ·simp
  apply Tr.cons
  ·exact .cg (q6)
  apply Tr.run
  ·simp only [go_sem, Mach.cells] <;> rfl
  ·simp
  apply Tr.cons
  ·exact .cg (q7)
  apply Tr.run
  ·simp only [go_sem, Mach.cells] <;> rfl
  ·simp
  apply Tr.cons
  ·exact .cg (q8)
  apply Tr.run
  ·simp only [go_sem, Mach.cells] <;> rfl
  ·simp
  apply Tr.cons
  ·exact .cg (lives_is)
  apply Tr.done
  ·simp only [go_sem, hUn] <;> rfl
  ·simp
 ·kernel_rfl
 refine EvC.rz ?_
 simp only [go_sem]
end Go.Avl
