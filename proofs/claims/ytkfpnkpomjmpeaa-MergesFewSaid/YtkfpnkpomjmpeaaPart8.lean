/-
  Lemmas.
  Lemmas.
  Lemmas.
  Lemmas.
  Lemmas.
  Lemmas.
  Lemmas.
  Lemmas.
  Lemmas.
  Lemmas.
  Lemmas.
-/
import Derived.Test.YtkfpnkpomjmpeaaPart7
set_option linter.unusedSimpArgs false
set_option linter.unusedVariables false
set_option linter.unnecessarySimpa false
set_option linter.deprecated false
namespace Go.Avl
open Go Go.Proofs.Try
set_option maxRecDepth 10000
set_option linter.unusedSimpArgs false
def edgeM (up red : List Nat) (W : Nat → Nat → Int × Int) (s i : Nat) : Int × Int :=
 if (W (rootU up ((red[s]?).getD 0)) i).1 ≠ -1 then (((redE up red).idxOf ((rootU up (W (rootU up ((red[s]?).getD 0)) i).1.toNat : Nat) : Int) : Nat), (W (rootU up ((red[s]?).getD 0)) i).2) else (-1, -1)
def rowM (up red : List Nat) (W : Nat → Nat → Int × Int) (I s : Nat) : List (Int × Int) := (List.range I).map (edgeM up red W s)
def rowFu (es : List (Int × Int)) : List AV := [.sl false (es.map edgeC) .full]
def machP (up red : List Nat) (W : Nat → Nat → Int × Int) (I s : Nat) : List (List AV) := ((List.range s).map fun k => rowFu (rowM up red W I k)) ++ List.replicate (red.length - s) [.sl true [] .zer]
def rowP (up red : List Nat) (W : Nat → Nat → Int × Int) (I s i : Nat) : List (Int × Int) := ((List.range i).map (edgeM up red W s)) ++ List.replicate (I - i) (0, 0)
theorem set_ren {es : List (List AV)} {s k j n : Nat} {cp : Cp} {K : List (Nat × Nat)} (hn : es.all AV.norefs = true) (hk : rlook K k = some j) : (es.set s [.tv k n 0 n cp]).map (fun c => c.map (AV.ren K)) = es.set s [.tv j n 0 n cp] := by
 have hid : es.map (fun c => c.map (AV.ren K)) = es := by
  conv => rhs; rw [← List.map_id es]
  refine List.map_congr_left fun c hc => ?_
  rw [List.all_eq_true] at hn
  have h1 := hn c hc
  have : ∀ (l : List AV), AV.norefs l = true → l.map (AV.ren K) = l := by
   intro l
   induction l with
   | nil => intro _; rfl
   | cons y ys ih =>
     intro h
     simp only [AV.norefs, Bool.and_eq_true] at h
     rw [List.map_cons, ih h.2, AV.ren, if_pos h.1]
  exact this c h1
 rw [List.map_set, hid]
 congr 1
 simp [AV.ren, AV.noref, AV.deep, renLeaf, hk]
theorem set_norefs {es : List (List AV)} {s k n : Nat} {cp : Cp} (h : s < es.length) : (es.set s [.tv k n 0 n cp]).all AV.norefs = false := by
 rw [List.all_eq_false]
 refine ⟨[.tv k n 0 n cp], ?_, by simp [AV.norefs, AV.noref]⟩
 rw [List.mem_iff_getElem]
 exact ⟨s, by rw [List.length_set]; exact h, by simp⟩
theorem machP_next {up red : List Nat} {W : Nat → Nat → Int × Int} {I s : Nat} (hs : s < red.length) : (machP up red W I s).set s (rowFu (rowM up red W I s)) = machP up red W I (s + 1) := by
 obtain ⟨d, hd⟩ : ∃ d, red.length - s = d + 1 := ⟨red.length - s - 1, by omega⟩
 have hd' : red.length - (s + 1) = d := by omega
 rw [machP, machP, hd, hd', List.replicate_succ, List.set_append_right _ _ (by simp), List.length_map, List.length_range, Nat.sub_self, List.set_cons_zero, List.range_succ, List.map_append, List.append_assoc]
 rfl
theorem rowP_all (up red : List Nat) (W : Nat → Nat → Int × Int) (I s : Nat) : rowP up red W I s I = rowM up red W I s := by simp [rowP, rowM]
theorem rowP_get {up red : List Nat} {W : Nat → Nat → Int × Int} {I s i : Nat} (hi : i < I) : (rowP up red W I s i)[i]? = some (0, 0) := by
 rw [rowP, List.getElem?_append_right (by simp), List.length_map, List.length_range, Nat.sub_self, List.getElem?_replicate, if_pos (by omega)]
theorem rowP_next {up red : List Nat} {W : Nat → Nat → Int × Int} {I s i : Nat} (hi : i < I) : (rowP up red W I s i).set i (edgeM up red W s i) = rowP up red W I s (i + 1) := by
 obtain ⟨d, hd⟩ : ∃ d, I - i = d + 1 := ⟨I - i - 1, by omega⟩
 have hd' : I - (i + 1) = d := by omega
 rw [rowP, rowP, hd, hd', List.replicate_succ, List.set_append_right _ _ (by simp), List.length_map, List.length_range, Nat.sub_self, List.set_cons_zero, List.range_succ, List.map_append, List.append_assoc]
 rfl
set_option maxHeartbeats 8000000 in
theorem machine49_body {t : Mach} (v : TV t) {I : Nat} (hI : t.ins = (I : Int)) {N : Nat} (hNr : N = t.rows.length) {up : List Nat} (hu : UpOk up) (hul : up.length = N) (W : Nat → Nat → Int × Int) (hW : ∀ p i, p < N → rootU up p = p → i < I → (W p i).1 = -1 ∨ (0 ≤ (W p i).1 ∧ (W p i).1 < N)) (nl : Bool) (red : List Nat) (c : Cp) (hred : ∀ r ∈ red, r < N) (hrl : 1 ≤ red.length ∧ red.length < 1000000) (hnd : (redE up red).Nodup)
  (hall : ∀ r ∈ red, ∀ i, i < I → (W (rootU up r) i).1 ≠ -1 → ((rootU up (W (rootU up r) i).1.toNat : Nat) : Int) ∈ redE up red) {R : AV → Mem → Nat → Prop}
  (hR : ∀ up', UpOk up' → up'.length = N → (∀ k, rootU up' k = rootU up k) → R (.ag [.sc (.int .i64 t.ins), .sc (.int .i64 t.outs), .sl false ((List.range red.length).map fun s => rowFu (rowM up red W I s)) .full]) (frM N up' (rowsV W N I) ++ [(1000101, .cells [.sc (.int .i64 t.ins), .sc (.int .i64 t.outs), .sl false ((List.range red.length).map fun s => rowFu (rowM up red W I s)) .full])]) 1000102) :
  BodyIs prog 49 [.rf 1000010 0, .ag t.cells, .sl nl (red.map natC) c] (frM N up (rowsV W N I)) 1000100 R := by
 have hrw := v.rows
 have hin := v.ins
 refine BodyIs.of (nv := 3) (hid := [4, 6, 7, 8, 9, 10, 11, 12, 24, 25, 26, 27, 46, 47, 48, 49, 63, 13, 14, 22, 36]) func49 rfl (by kernel_rfl) (by simp [ntmps49]) fun h0 => ?_
 rw [ntmps49, results49]
 unfold frM
 refine EvC.seq (EvC.rg (by simp only [go_sem, Mach.cells] <;> rfl) (by simp) ?_)
 refine EvC.frzB 1000100 (by simp only [go_sem] <;> rfl) ?_
 apply EvC.seq
 apply EvC.rs
 ·simp only [go_sem] <;> rfl
 ·simp
 refine XR.gcTo ⟨[(0, .rf 1000010 0), (2, .sl nl (red.map natC) c), (4, .ia t.cells), (6, .rf 1000101 0), (13, .rf 1000010 0), (14, .sl nl (red.map natC) c)], [], frM N up (rowsV W N I) ++ [(1000101, .cells [.sc (.int .i64 0), .sc (.int .i64 0), .sl true [] .zer])], 1000150⟩ [0, 2, 4, 6, 13, 14] [(1000010, 1000010), (1000011, 1000011), (1000101, 1000101)] rfl (by simp only [go_sem, frM, Mach.cells, List.cons_append, List.nil_append] <;> rfl) ?_
 refine XR.callF (frM N up (rowsV W N I)) [(1000101, .cells [.sc (.int .i64 0), .sc (.int .i64 0), .sl true [] .zer])] rfl rfl (by simp only [go_sem] <;> rfl) (by simp only [go_sem] <;> rfl) (by simp only [go_sem] <;> rfl) (by simp only [go_sem] <;> rfl) rfl ?_
 refine states48_body ⟨by omega, by omega⟩ hu hul _ nl red c hred hrl.2 hnd ?_
 intro up1 hu1 hul1 hroot1
 refine ⟨by simp, ⟨[(1000010, 1000010), (1000011, 1000011), (1000150, 1000150)], rfl, by simp only [go_sem, frM, List.cons_append, List.nil_append] <;> rfl, rfl, rfl⟩, ?_⟩
 apply XR.done
 ·simp only [go_sem] <;> rfl
 ·simp
 unfold frM
 have hrlz : (List.replicate red.length [AV.sl true [] .zer]).length = red.length := List.length_replicate
 apply EvC.seq
 apply EvC.drwA mixed
 ·apply Tr.done
  ·simp only [go_sem, Mach.cells, List.length_map, List.cons_append, List.nil_append, hrlz] <;> rfl
  ·simp [room_eq]; omega
 ·kernel_rfl
 refine EvC.seq ?_
 refine EvC.seq (EvC.rg (by simp only [go_sem, List.length_map] <;> rfl) (by simp) ?_)
 refine EvC.block ?_
 refine EvC.loopS (σ := Nat × List Nat) (fun g => ⟨[(0, .rf 1000010 0), (4, .ia t.cells), (6, .rf 1000101 0), (7, .mp 1000150), (8, .rf 1000103 0), (24, .sl nl (red.map natC) c), (25, .sc (.int .i64 red.length)), (26, .sc (.int .i64 g.1))], [],
   [(1000010, .cells [.tv 1000011 N 0 N .unk, .sl false (rowsV W N I) .unk]), (1000011, .arr 1 (g.2.map natC) false), (1000150, .map 3 (entsI 0 (redE up red))), (1000101, .cells [.sc (.int .i64 0), .sc (.int .i64 0), .sl true [] .zer]), (1000102, .arr 1 (machP up red W I g.1) false), (1000103, .cells [.sc (.int .i64 t.ins), .sc (.int .i64 t.outs), .tv 1000102 red.length 0 red.length (.val red.length)])], 1000151⟩) (fun g => red.length - g.1)
  (fun g => g.1 ≤ red.length ∧ UpOk g.2 ∧ g.2.length = N ∧ ∀ k, rootU g.2 k = rootU up k) [0, 4, 6, 7, 8, 24, 25, 26] 1000151 ?_ ?_
 ·have hz2 : (List.replicate red.length [AV.sl true [] .zer]).all AV.norefs = true := by simp [List.all_eq_true, AV.norefs, AV.noref]
  exact ⟨[(1000010, 1000010), (1000011, 1000011), (1000150, 1000150), (1000101, 1000101), (1000158, 1000102), (1000160, 1000103)], (0, up1), rfl, (by simp only [go_sem, hz2, if_true, Mach.cells, machP, List.range_zero, List.map_nil, List.nil_append, Nat.sub_zero, Int.natCast_zero] <;> rfl), Nat.zero_le _, hu1, hul1, hroot1⟩
 clear hroot1 hul1 hu1
 rintro ⟨s, u⟩ ⟨h1, h2, h3, h4⟩
 simp only at h1 h2 h3 h4 ⊢
 have hsin : (s : Int).toNat = s := Int.toNat_natCast s
 have hpl : (machP up red W I s).length = red.length := by simp [machP]; omega
 have hpn : ∀ s, (machP up red W I s).all AV.norefs = true := fun s => by simp [machP, rowFu, List.all_eq_true, AV.norefs, AV.noref]
 refine EvC.seq (EvC.rg (by simp only [go_sem] <;> rfl) (by simp) ?_)
 refine EvC.seq ?_
 refine EvC.cond (by simp only [go_sem] <;> rfl) (fun hc => ?_) (fun hc => ?_)
 rotate_left
 ·
  obtain rfl : s = red.length := by have : ¬ s < red.length := by simpa using hc
                                    omega
  refine EvC.exit ?_
  refine EvC.frzD 1000102 (by simp only [go_sem, hpn, hpl] <;> rfl) ?_
  have hpe : machP up red W I red.length = (List.range red.length).map fun s => rowFu (rowM up red W I s) := by simp [machP]
  rw [hpe]
  refine EvC.seq (EvC.rg (by simp only [go_sem] <;> rfl) (by simp) ?_)
  refine EvC.gcE (st2 := ⟨[(6, .rf 1000101 0)], [], frM N u (rowsV W N I) ++ [(1000101, .cells [.sc (.int .i64 t.ins), .sc (.int .i64 t.outs), .sl false ((List.range red.length).map fun s => rowFu (rowM up red W I s)) .full])], 1000102⟩) [6] [(1000010, 1000010), (1000011, 1000011), (1000101, 1000101)] 1000102 rfl (by simp only [go_sem, frM, List.cons_append, List.nil_append] <;> rfl) ?_
  refine EvC.ret ⟨.inl rfl, _, (by simp only [go_sem, frM, List.cons_append, List.nil_append] <;> rfl), ?_⟩
  exact hR u h2 h3 h4
 have hs : s < red.length := by simpa using hc
 clear hc
 refine EvC.skip ?_
 refine EvC.seq ?_
 refine EvC.block ?_
 have hx : red[s]? = some (red[s]'hs) := List.getElem?_eq_getElem hs
 have hxN := hred _ (List.getElem_mem hs)
 have hxm := List.getElem_mem hs
 have hem : ∀ i, edgeM up red W s i = if (W (rootU up (red[s]'hs)) i).1 ≠ -1 then ((((redE up red).idxOf ((rootU up (W (rootU up (red[s]'hs)) i).1.toNat : Nat) : Int) : Nat) : Int), (W (rootU up (red[s]'hs)) i).2) else (-1, -1) := fun i => by
  unfold edgeM
  rw [hx]; rfl
 generalize red[s]'hs = x at hx hxN hxm hem
 have hIn : t.ins.toNat = I := by omega
 have hpi : (machP up red W I s)[s]? = some [.sl true [] .zer] := by
  rw [machP, List.getElem?_append_right (by simp), List.length_map, List.length_range, Nat.sub_self, List.getElem?_replicate, if_pos (by omega)]
 have hrI : (List.replicate I [AV.sc (.int .i64 0), .sc (.int .i64 0)]).length = I := List.length_replicate
 refine EvC.seq (EvC.rg (by simp only [go_sem, hx, natC, hsin, List.length_map] <;> rfl) (by simp; try omega) ?_)
 apply EvC.seq
 apply EvC.drwA mixed
 ·apply Tr.done
  ·simp only [go_sem, Mach.cells, hIn, hI, Int.toNat_natCast, hpl, hpi, hsin, hrI] <;> rfl
  ·simp [room_eq, hpl]; omega
 ·kernel_rfl
 obtain ⟨q1, q2, q3, q4⟩ := halved_ok h2 (n := x) (by omega)
 have w1 := least44_is h2 (by omega) (n := x) (by omega)
 have hpN : rootU up x < N := by have := rootU_le hu x; omega
 have hall' := hall x hxm
 rw [h3, h4] at w1
 have hul1 : (u.map natC).length = N := by rw [List.length_map, h3]
 obtain ⟨u1, hu1⟩ : ∃ u1, u1 = halved u x := ⟨_, rfl⟩
 rw [← hu1] at q2 q3 q4 w1
 have hul2 : (u1.map natC).length = N := by rw [List.length_map, q3, h3]
 have hu1r : ∀ k, rootU u1 k = rootU up k := fun k => by rw [q4, h4]
 have hu1l : u1.length = N := by rw [q3, h3]
 clear h2 h3 h4 q1 q4 hu1
 have hpp := rootU_root hu x
 generalize rootU up x = p at hpN hem hall' w1 hpp
 have hpin : (p : Int).toNat = p := Int.toNat_natCast p
 have hvl := rowsV_len W N I
 have hvp := rowsV_get (W := W) (I := I) hpN
 apply EvC.seq
 apply EvC.drwA mixed
 ·apply Tr.run
  ·simp only [go_sem] <;> rfl
  ·simp
  apply Tr.cons
  ·exact .callW (i := 1000010) (u := 1000011) rfl rfl (by simp only [go_sem] <;> rfl) (by simp only [go_sem] <;> rfl) (by simp only [go_sem] <;> rfl) (by simp only [go_sem] <;> rfl) (by simp only [go_sem] <;> rfl) (by simp only [go_sem] <;> rfl) hul1.symm (by omega) (by rw [hul2, hul1]) (norefs_natC _) (norefs_natC _) rfl rfl (by simp only [go_sem] <;> rfl) w1
  apply Tr.done
  ·simp only [go_sem, hvp, hvl, hpin, gcells_len] <;> rfl
  ·simp; try omega
 ·kernel_rfl
 refine EvC.block ?_
 refine EvC.loopS (σ := Nat × List Nat) (fun g => ⟨[(0, .rf 1000010 0), (4, .ia t.cells), (6, .rf 1000101 0), (7, .mp 1000150), (8, .rf 1000103 0), (9, .sc (.int .i64 s)), (24, .sl nl (red.map natC) c), (25, .sc (.int .i64 red.length)), (26, .sc (.int .i64 s)), (46, .sl false (gcells edgeC (W p) I) .unk), (47, .sc (.int .i64 I)), (48, .sc (.int .i64 g.1))], [],
   [(1000010, .cells [.tv 1000011 N 0 N .unk, .sl false (rowsV W N I) .unk]), (1000011, .arr 1 (g.2.map natC) false), (1000150, .map 3 (entsI 0 (redE up red))), (1000101, .cells [.sc (.int .i64 0), .sc (.int .i64 0), .sl true [] .zer]), (1000102, .arr 1 ((machP up red W I s).set s [.tv 1000104 I 0 I (.val I)]) false), (1000103, .cells [.sc (.int .i64 t.ins), .sc (.int .i64 t.outs), .tv 1000102 red.length 0 red.length (.val red.length)]), (1000104, .arr 2 ((rowP up red W I s g.1).map edgeC) false)], 1000151⟩) (fun g => I - g.1)
  (fun g => g.1 ≤ I ∧ UpOk g.2 ∧ g.2.length = N ∧ ∀ k, rootU g.2 k = rootU up k) [0, 4, 6, 7, 8, 9, 24, 25, 26, 46, 47, 48] 1000151 ?_ ?_
 ·have hsr := set_ren (n := I) (cp := .val I) (hpn s) (s := s) (k := 1000162) (j := 1000104) (K := [(1000010, 1000010), (1000011, 1000011), (1000150, 1000150), (1000101, 1000101), (1000102, 1000102), (1000103, 1000103), (1000162, 1000104)]) rfl
  have hsnr := set_norefs (k := 1000162) (n := I) (cp := .val I) (show s < (machP up red W I s).length by omega)
  have hz3 : (List.replicate I [AV.sc (.int .i64 0), .sc (.int .i64 0)]).all AV.norefs = true := by simp [List.all_eq_true, AV.norefs, AV.noref]
  have hr0 : (rowP up red W I s 0).map edgeC = List.replicate I [AV.sc (.int .i64 0), .sc (.int .i64 0)] := by simp [rowP, edgeC]
  exact ⟨[(1000010, 1000010), (1000011, 1000011), (1000150, 1000150), (1000101, 1000101), (1000102, 1000102), (1000103, 1000103), (1000162, 1000104)], (0, u1), rfl, (by simp only [go_sem, hsr, hsnr, hz3, hr0, hI, if_true, Mach.cells, Int.natCast_zero] <;> rfl), Nat.zero_le _, q2, hu1l, hu1r⟩
 clear q2 hu1l hu1r w1 hul1 hul2
 rintro ⟨i, u⟩ ⟨g1, g2, g3, g4⟩
 simp only at g1 g2 g3 g4 ⊢
 have hiin : (i : Int).toNat = i := Int.toNat_natCast i
 have hul1 : (u.map natC).length = N := by rw [List.length_map, g3]
 have hrl1 : (rowP up red W I s i).length = I := by simp [rowP]; omega
 have hsl1 : ((machP up red W I s).set s [.tv 1000104 I 0 I (.val I)]).length = red.length := by rw [List.length_set, hpl]
 have hsg : ((machP up red W I s).set s [AV.tv 1000104 I 0 I (.val I)])[s]? = some [.tv 1000104 I 0 I (.val I)] := by rw [List.getElem?_set_self (by omega)]
 refine EvC.seq (EvC.rg (by simp only [go_sem] <;> rfl) (by simp) ?_)
 refine EvC.seq ?_
 refine EvC.cond (by simp only [go_sem] <;> rfl) (fun hc => ?_) (fun hc => ?_)
 rotate_left
 ·
  obtain rfl : i = I := by have : ¬ i < I := by simpa using hc
                           omega
  refine EvC.exit ?_
  refine EvC.frz 1000104 (by simp only [go_sem, hrl1, List.length_map] <;> rfl) ?_
  refine EvC.snapE 1000102 s (by simp only [go_sem, hsg, hrl1, List.length_map] <;> rfl) ?_
  have hmn := machP_next (up := up) (W := W) (I := i) hs
  rw [rowFu, ← rowP_all] at hmn
  refine EvC.rg (by simp only [go_sem] <;> rfl) (by exact inI64_of (by omega) (by omega)) ?_
  exact ⟨[(1000010, 1000010), (1000011, 1000011), (1000150, 1000150), (1000101, 1000101), (1000102, 1000102), (1000103, 1000103)], (s + 1, u), rfl, (by simp only [go_sem, List.set_set, hmn, hpn (s + 1), if_true, Int.natCast_add, Int.natCast_one] <;> rfl), ⟨hs, g2, g3, g4⟩, by simp only; omega⟩
 have hiI : i < I := by simpa using hc
 clear hc
 refine EvC.skip ?_
 refine EvC.seq ?_
 refine EvC.block ?_
 have hg := gcells_get edgeC (W p) hiI
 have hw := hW p i hpN hpp hiI
 have hem1 := hem i
 have hal1 := hall' i hiI
 generalize W p i = e at hg hw hem1 hal1
 obtain ⟨e1, e2⟩ := e
 simp only at hw hem1 hal1
 refine EvC.seq (EvC.rg (by simp only [go_sem, hg, hiin, edgeC, gcells_len] <;> rfl) (by simp; try omega) ?_)
 refine EvC.frzB 1000155 (by simp only [go_sem] <;> rfl) ?_
 have hrg : ((rowP up red W I s i).map edgeC)[i]? = some [.sc (.int .i64 0), .sc (.int .i64 0)] := by rw [List.getElem?_map, rowP_get hiI]; rfl
 have hrml : ((rowP up red W I s i).map edgeC).length = I := by rw [List.length_map, hrl1]
 have hnx := rowP_next (up := up) (red := red) (W := W) (s := s) hiI
 rw [hem1] at hnx
 have hmap : ∀ e : Int × Int, ((rowP up red W I s i).set i e).map edgeC = ((rowP up red W I s i).map edgeC).set i [.sc (.int .i64 e.1), .sc (.int .i64 e.2)] := fun e => by rw [List.map_set]; rfl
 have hsr := set_ren (n := I) (cp := .val I) (hpn s) (s := s) (k := 1000104) (j := 1000104) (K := [(1000010, 1000010), (1000011, 1000011), (1000150, 1000150), (1000101, 1000101), (1000102, 1000102), (1000103, 1000103), (1000104, 1000104)]) rfl
 have hsnr := set_norefs (k := 1000104) (n := I) (cp := .val I) (show s < (machP up red W I s).length by omega)
 refine EvC.seq (EvC.rg (by simp only [go_sem, hsl1, hsg, hsin, hiin, hrg, hrml] <;> rfl) (by simp [hsl1, hrml]; try omega) ?_)
 have hL1g : (((rowP up red W I s i).map edgeC).set i [.sc (.int .i64 (-1)), .sc (.int .i64 (-1))])[i]? = some [.sc (.int .i64 (-1)), .sc (.int .i64 (-1))] := List.getElem?_set_self (by omega)
 have hL1l : (((rowP up red W I s i).map edgeC).set i [.sc (.int .i64 (-1)), .sc (.int .i64 (-1))]).length = I := by rw [List.length_set, hrml]
 refine EvC.seq (EvC.rg (by simp only [go_sem] <;> rfl) (by simp) ?_)
 by_cases he : e1 = -1
 ·rw [if_neg (by rw [he]; simp)] at hnx
  have hm2 := hmap (-1, -1)
  rw [hnx] at hm2
  simp only at hm2
  refine EvC.cond_false (by simp only [go_sem, decide_eq_true he] <;> rfl) ?_
  refine EvC.skip ?_
  refine EvC.rg (by simp only [go_sem] <;> rfl) (by exact inI64_of (by omega) (by omega)) ?_
  exact ⟨[(1000010, 1000010), (1000011, 1000011), (1000150, 1000150), (1000101, 1000101), (1000102, 1000102), (1000103, 1000103), (1000104, 1000104)], (i + 1, u), rfl, (by simp only [go_sem, hsr, hsnr, ← hm2, Int.natCast_add, Int.natCast_one] <;> rfl), ⟨hiI, g2, g3, g4⟩, by simp only; omega⟩
 rw [if_pos he] at hnx
 refine EvC.cond_true (by simp only [go_sem, decide_eq_false he] <;> rfl) ?_
 obtain ⟨q, hq⟩ : ∃ q : Nat, e1 = (q : Int) := ⟨e1.toNat, by omega⟩
 subst hq
 rw [Int.toNat_natCast] at hnx hal1
 have hqN : q < N := by omega
 obtain ⟨q1, q2, q3, q4⟩ := halved_ok g2 (n := q) (by omega)
 have w2 := least44_is g2 (by omega) (n := q) (by omega)
 rw [g3, g4] at w2
 obtain ⟨u2, hu2⟩ : ∃ u2, u2 = halved u q := ⟨_, rfl⟩
 rw [← hu2] at q2 q3 q4 w2
 have hul2 : (u2.map natC).length = N := by rw [List.length_map, q3, g3]
 have hlook := elook_entsI ((rootU up q : Nat) : Int) (redE up red) 0
 rw [if_pos (hal1 he), Nat.zero_add] at hlook
 have hm2 := hmap ((((redE up red).idxOf ((rootU up q : Nat) : Int) : Nat) : Int), e2)
 rw [hnx] at hm2
 simp only at hm2
 generalize rootU up q = m at w2 hlook hm2
 generalize (redE up red).idxOf (m : Int) = k at hlook hm2
 have hL3 : (((rowP up red W I s i).map edgeC).set i [.sc (.int .i64 (-1)), .sc (.int .i64 (-1))]).set i [.sc (.int .i64 (k : Int)), .sc (.int .i64 e2)] = (rowP up red W I s (i + 1)).map edgeC := by rw [List.set_set, ← hm2]
 generalize ((rowP up red W I s i).map edgeC).set i [.sc (.int .i64 (-1)), .sc (.int .i64 (-1))] = L1 at hL1g hL1l hL3 ⊢
 apply EvC.drwA mixed
 ·apply Tr.run
  ·simp only [go_sem, hsl1, hsg, hsin] <;> rfl
  ·simp [hsl1]; try omega
  apply Tr.cons
  ·exact .callW (i := 1000010) (u := 1000011) rfl rfl (by simp only [go_sem] <;> rfl) (by simp only [go_sem] <;> rfl) (by simp only [go_sem] <;> rfl) (by simp only [go_sem] <;> rfl) (by simp only [go_sem] <;> rfl) (by simp only [go_sem] <;> rfl) hul1.symm (by omega) (by rw [hul2, hul1]) (norefs_natC _) (norefs_natC _) rfl rfl (by simp only [go_sem] <;> rfl) w2
  apply Tr.done
  ·simp only [go_sem, hlook, hiin, hL1g, hL1l, hL3] <;> rfl
  ·simp [hL1l]; try omega
 ·kernel_rfl
 refine EvC.rg (by simp only [go_sem] <;> rfl) (by exact inI64_of (by omega) (by omega)) ?_
 exact ⟨[(1000010, 1000010), (1000011, 1000011), (1000150, 1000150), (1000101, 1000101), (1000102, 1000102), (1000103, 1000103), (1000104, 1000104)], (i + 1, u2), rfl, (by simp only [go_sem, hsr, hsnr, Int.natCast_add, Int.natCast_one] <;> rfl), ⟨hiI, q2, by simp only; omega, fun k => by simp only; rw [q4, g4]⟩, by simp only; omega⟩
end Go.Avl
namespace Go.Avl
open Go Go.Proofs.Try
set_option maxRecDepth 10000
set_option linter.unusedSimpArgs false
theorem rowT_has {outs : Int} : ∀ {r : List (Int × Int)} {nx nx' : Int}, 1 ≤ nx → rowT outs r nx = some nx' → ∀ m : Int, nx ≤ m → m < nx' → ∃ (j : Nat) (e : Int × Int), r[j]? = some e ∧ e.1 = m
 | [], nx, nx', _, h, m, h1, h2 => by simp [rowT] at h; omega
 | y :: r, nx, nx', h0, h, m, h1, h2 => by
   rw [rowT] at h
   split at h
   ·obtain ⟨j, e, k1, k2⟩ := rowT_has h0 h m h1 h2
    exact ⟨j + 1, e, by simpa using k1, k2⟩
   ·split at h
    ·rename_i hy
     by_cases hm : m = nx
     ·exact ⟨0, y, rfl, by rw [hm]; exact hy.1⟩
     ·obtain ⟨j, e, k1, k2⟩ := rowT_has (by omega) h m (by omega) h2
      exact ⟨j + 1, e, by simpa using k1, k2⟩
    ·cases h
theorem rowT_uniq {outs : Int} : ∀ {r : List (Int × Int)} {nx nx' : Int}, 1 ≤ nx → rowT outs r nx = some nx' → ∀ (j j' : Nat) (e e' : Int × Int), r[j]? = some e → r[j']? = some e' → e.1 ≠ -1 → e.1 = e'.1 → j = j'
 | [], _, _, _, _, j, _, _, _, h, _, _, _ => by simp at h
 | y :: r, nx, nx', h0, h, j, j', e, e', h1, h2, h3, h4 => by
   have hge := fun e (he : e ∈ r) (nx0 : Int) (hr : rowT outs r nx0 = some nx') => rowT_edges hr e he
   rw [rowT] at h
   split at h
   ·rename_i hy
    cases j with
    | zero => simp at h1; subst h1; exact absurd hy.1 h3
    | succ j => cases j' with
      | zero => simp at h2; subst h2; rw [h4] at h3; exact absurd hy.1 h3
      | succ j' => rw [rowT_uniq h0 h j j' e e' (by simpa using h1) (by simpa using h2) h3 h4]
   ·split at h
    ·rename_i hy
     cases j with
     | zero => cases j' with
       | zero => rfl
       | succ j' =>
         simp at h1 h2; subst h1
         have := hge e' (List.mem_of_getElem? h2) _ h
         omega
     | succ j => cases j' with
       | zero =>
         simp at h1 h2; subst h2
         have := hge e (List.mem_of_getElem? h1) _ h
         omega
       | succ j' => rw [rowT_uniq (by omega) h j j' e e' (by simpa using h1) (by simpa using h2) h3 h4]
    ·cases h
theorem rowsT_has {ins outs : Int} : ∀ {rs : List Row} {n nx nx' : Int}, 1 ≤ nx → rowsT ins outs rs n nx = some nx' → ∀ m : Int, nx ≤ m → m < nx' → ∃ (i j : Nat) (r : Row) (e : Int × Int), rs[i]? = some r ∧ r.2[j]? = some e ∧ e.1 = m ∧ n + i < m
 | [], n, nx, nx', _, h, m, h1, h2 => by simp [rowsT] at h; omega
 | y :: rs, n, nx, nx', h0, h, m, h1, h2 => by
   rw [rowsT] at h
   split at h
   ·cases h
   ·rename_i hc
    split at h
    ·cases h
    ·rename_i k hk
     have hge := rowT_ge hk
     by_cases hm : m < k
     ·obtain ⟨j, e, k1, k2⟩ := rowT_has h0 hk m h1 hm
      exact ⟨0, j, y, e, rfl, k1, k2, by simp; omega⟩
     ·obtain ⟨i, j, r, e, k1, k2, k3, k4⟩ := rowsT_has (by omega) h m (by omega) h2
      exact ⟨i + 1, j, r, e, by simpa using k1, k2, k3, by simp only [Int.natCast_add, Int.natCast_one]; omega⟩
theorem rowsT_uniq {ins outs : Int} : ∀ {rs : List Row} {n nx nx' : Int}, 1 ≤ nx → rowsT ins outs rs n nx = some nx' → ∀ (i i' j j' : Nat) (r r' : Row) (e e' : Int × Int), rs[i]? = some r → rs[i']? = some r' → r.2[j]? = some e → r'.2[j']? = some e' → e.1 ≠ -1 → e.1 = e'.1 → i = i' ∧ j = j'
 | [], _, _, _, _, _, i, _, _, _, _, _, _, _, h, _, _, _, _, _ => by simp at h
 | y :: rs, n, nx, nx', h0, h, i, i', j, j', r, r', e, e', h1, h2, h3, h4, h5, h6 => by
   rw [rowsT] at h
   split at h
   ·cases h
   ·split at h
    ·cases h
    ·rename_i k hk
     have hge := rowT_ge hk
     have hlow : ∀ (i : Nat) (r : Row) (j : Nat) (e : Int × Int), rs[i]? = some r → r.2[j]? = some e → e.1 ≠ -1 → k ≤ e.1 := fun i r j e k1 k2 k3 => by
      have hrow := fun (rs : List Row) => rs
      have : ∀ {rs : List Row} {n nx nx' : Int}, rowsT ins outs rs n nx = some nx' → ∀ (i : Nat) (r : Row), rs[i]? = some r → ∀ e ∈ r.2, e.1 = -1 ∨ nx ≤ e.1 := by
       intro rs
       induction rs with
       | nil => intro _ _ _ _ i r h; simp at h
       | cons y rs ih =>
         intro n nx nx' h i r hr e he
         rw [rowsT] at h
         split at h
         ·cases h
         ·split at h
          ·cases h
          ·rename_i k hk
           have hge := rowT_ge hk
           cases i with
           | zero =>
             simp at hr; subst hr
             rcases rowT_edges hk e he with h1 | h1
             ·exact .inl h1.1
             ·exact .inr h1.1
           | succ i =>
             rcases ih h i r (by simpa using hr) e he with h1 | h1
             ·exact .inl h1
             ·exact .inr (by omega)
      rcases this h i r k1 e (List.mem_of_getElem? k2) with h7 | h7
      ·exact absurd h7 k3
      ·exact h7
     have hhi : ∀ (j : Nat) (e : Int × Int), y.2[j]? = some e → e.1 ≠ -1 → e.1 < k := fun j e k1 k2 => by
      rcases rowT_edges hk e (List.mem_of_getElem? k1) with h7 | h7
      ·exact absurd h7.1 k2
      ·exact h7.2.1
     cases i with
     | zero => cases i' with
       | zero =>
         simp at h1 h2; subst h1 h2
         exact ⟨rfl, rowT_uniq h0 hk j j' e e' h3 h4 h5 h6⟩
       | succ i' =>
         simp at h1 h2; subst h1
         have := hhi j e h3 h5
         have := hlow i' r' j' e' h2 h4 (by rw [← h6]; exact h5)
         omega
     | succ i => cases i' with
       | zero =>
         simp at h1 h2; subst h2
         have := hhi j' e' h4 (by rw [← h6]; exact h5)
         have := hlow i r j e h1 h3 h5
         omega
       | succ i' =>
         obtain ⟨k1, k2⟩ := rowsT_uniq (by omega) h i i' j j' r r' e e' (by simpa using h1) (by simpa using h2) h3 h4 h5 h6
         exact ⟨by rw [k1], k2⟩
structure TP (t : Mach) : Prop where
 has : ∀ m : Nat, 1 ≤ m → m < t.rows.length → ∃ p i : Nat, p < m ∧ (i : Int) < t.ins ∧ (eT t p i).1 = m
 uniq : ∀ p i p' i' : Nat, (eT t p i).1 ≠ -1 → (eT t p i).1 = (eT t p' i').1 → p = p' ∧ i = i'
theorem eT_get {t : Mach} {p i : Nat} (h : (eT t p i).1 ≠ -1) : ∃ r, t.rows[p]? = some r ∧ r.2[i]? = some (eT t p i) := by
 have hp := eT_in h
 refine ⟨t.rows[p], List.getElem?_eq_getElem hp, ?_⟩
 unfold eT at h ⊢
 rw [List.getElem?_eq_getElem hp] at h ⊢
 simp only [Option.map_some, Option.getD_some] at h ⊢
 cases he : t.rows[p].2[i]? with
 | none => rw [he] at h; exact absurd rfl h
 | some e => rfl
theorem TP.of {t : Mach} (h : checkT t = 0) : TP t := by
 have v := TV.of h
 unfold checkT at h
 split at h
 ·cases h
 ·split at h
  ·cases h
  ·split at h
   ·rename_i nx hnx
    split at h
    ·rename_i h3
     subst h3
     refine ⟨fun m h1 h2 => ?_, fun p i p' i' h1 h2 => ?_⟩
     ·obtain ⟨i, j, r, e, k1, k2, k3, k4⟩ := rowsT_has (by omega) hnx (m : Int) (by omega) (by omega)
      have hjl := (v.row i r k1).1
      have hj := (List.getElem?_eq_some_iff.1 k2).1
      refine ⟨i, j, by omega, by omega, ?_⟩
      rw [eT, k1]
      simp only [Option.map_some, Option.getD_some, k2]
      exact k3
     ·obtain ⟨r, k1, k2⟩ := eT_get h1
      obtain ⟨r', k3, k4⟩ := eT_get (t := t) (p := p') (i := i') (by rw [← h2]; exact h1)
      exact rowsT_uniq (by omega) hnx p p' i i' r r' _ _ k1 k3 k2 k4 h1 h2
    ·cases h
   ·cases h
end Go.Avl
namespace Go.Avl
open Go Go.Proofs.Try
set_option maxRecDepth 10000
set_option linter.unusedSimpArgs false
def isRed (c red : List Nat) (k : Nat) : Bool := red.any fun r => decide (pU c r = k)
theorem isRed_iff {c red : List Nat} {k : Nat} : isRed c red k = true ↔ ∃ r ∈ red, pU c r = k := by
 unfold isRed
 rw [List.any_eq_true]
 simp
def candC (t : Mach) (c red : List Nat) : List Nat :=
 (List.range t.rows.length).flatMap fun n => if isRed c red (pU c n) = true then (List.range t.ins.toNat).filterMap fun i => if (eT t n i).1 ≠ -1 ∧ isRed c red (pU c (eT t n i).1.toNat) = false then some (eT t n i).1.toNat else none else []
theorem mem_candC {t : Mach} {c red : List Nat} {m : Nat} : m ∈ candC t c red ↔ ∃ n i : Nat, n < t.rows.length ∧ i < t.ins.toNat ∧ isRed c red (pU c n) = true ∧ (eT t n i).1 ≠ -1 ∧ isRed c red (pU c m) = false ∧ m = (eT t n i).1.toNat := by
 unfold candC
 rw [List.mem_flatMap]
 constructor
 ·rintro ⟨n, hn, h⟩
  split at h
  ·rename_i hr
   obtain ⟨i, hi, h⟩ := List.mem_filterMap.1 h
   split at h
   ·rename_i hc
    have := Option.some.inj h
    subst this
    exact ⟨n, i, List.mem_range.1 hn, List.mem_range.1 hi, hr, hc.1, hc.2, rfl⟩
   ·cases h
  ·cases h
 ·rintro ⟨n, i, h1, h2, h3, h4, h5, rfl⟩
  exact ⟨n, List.mem_range.2 h1, by rw [if_pos h3]; exact List.mem_filterMap.2 ⟨i, List.mem_range.2 h2, if_pos ⟨h4, h5⟩⟩⟩
def minL : List Nat → Int
 | [] => -1
 | k :: l => if minL l < 0 ∨ (k : Int) < minL l then k else minL l
theorem minL_min : ∀ l : List Nat, MinOf (· ∈ l) (minL l)
 | [] => .inl ⟨rfl, fun k h => by cases h⟩
 | k :: l => ((minL_min l).add k).congr fun j => by rw [List.mem_cons]; exact Or.comm
def nextC (t : Mach) (c red : List Nat) : Int := minL (candC t c red)
theorem nextC_min (t : Mach) (c red : List Nat) : MinOf (· ∈ candC t c red) (nextC t c red) := minL_min _
theorem cand_le {t : Mach} (p : TP t) {c red : List Nat} (h0 : isRed c red (pU c 0) = true) : ∀ k, k < t.rows.length → isRed c red (pU c k) = false → ∃ m ∈ candC t c red, m ≤ k := by
 intro k
 induction k using Nat.strongRecOn with
 | _ k ih =>
   intro hk hn
   have hk0 : k ≠ 0 := fun e => by rw [e, h0] at hn; cases hn
   obtain ⟨q, i, h1, h2, h3⟩ := p.has k (by omega) hk
   cases hq : isRed c red (pU c q) with
   | true =>
     exact ⟨k, mem_candC.2 ⟨q, i, by omega, by omega, hq, by rw [h3]; omega, hn, by rw [h3]; omega⟩, Nat.le_refl _⟩
   | false =>
     obtain ⟨m, k1, k2⟩ := ih q h1 (by omega) hq
     exact ⟨m, k1, by omega⟩
theorem next_eq {t : Mach} (v : TV t) (tp : TP t) {I : Nat} (hI : t.ins = (I : Int)) {up : List Nat} {W : Nat → Nat → Int × Int} (hF : FI t up W fun _ _ => False) {red : List Nat} (hred : ∀ r ∈ red, r < t.rows.length) (h0 : 0 ∈ red) {o : Int}
  (ho : MinOf (fun k => ∃ r ∈ red, NxtI up red W (rootU up r) I k) o) : o = nextC t (rootsL up t.rows.length) red := by
 have hpU := rootsL_pU hF.ok hF.len
 obtain ⟨c, hc⟩ : ∃ c, c = rootsL up t.rows.length := ⟨_, rfl⟩
 rw [← hc] at hpU ⊢
 have hrn : ∀ k, isRed c red k = false ↔ ∀ r ∈ red, rootU up r ≠ k := fun k => by
  constructor
  ·intro h r hr e
   rw [show isRed c red k = true from isRed_iff.2 ⟨r, hr, by rw [hpU]; exact e⟩] at h
   cases h
  ·intro h
   cases hk : isRed c red k with
   | false => rfl
   | true =>
     obtain ⟨r, h1, h2⟩ := isRed_iff.1 hk
     exact absurd (by rw [← hpU]; exact h2) (h r h1)
 have hin := v.ins
 have hA : ∀ k, (∃ r ∈ red, NxtI up red W (rootU up r) I k) → ∃ m ∈ candC t c red, pU c m = k := fun k ⟨r, hr, j, h1, h2, h3, h4⟩ => by
  have hrN := hred r hr
  have hpN : rootU up r < t.rows.length := by have := rootU_le hF.ok r; omega
  obtain ⟨m, k1, k2, k3⟩ := hF.row (rootU up r) j hpN (rootU_root hF.ok r) (by omega) (knownE_to h2)
  rw [k3] at h2 h3
  refine ⟨(eT t m j).1.toNat, mem_candC.2 ⟨m, j, k1, by omega, isRed_iff.2 ⟨r, hr, by rw [hpU, hpU, k2]⟩, h2, ?_, rfl⟩, by rw [hpU, h3]⟩
  rw [hrn, hpU, ← h3]
  exact h4
 have hB : ∀ m, m ∈ candC t c red → ∃ r ∈ red, NxtI up red W (rootU up r) I (pU c m) := fun m hm => by
  obtain ⟨n, i, h1, h2, h3, h4, h5, rfl⟩ := mem_candC.1 hm
  obtain ⟨r, hr, h6⟩ := isRed_iff.1 h3
  rw [hpU, hpU] at h6
  obtain ⟨k1, k2, k3⟩ := hF.node n i h1 (by omega) (knownE_to h4)
  have hw : (W (rootU up n) i).1 ≠ -1 := fun e => h4 (((clashE_iff (knownE_to h4) k1).1 k2).1.2 e)
  have hto := k3 (bothE_iff.2 ⟨h4, hw⟩)
  have e : (fun a b => rootU up a = rootU up b ∨ False) = fun a b => rootU up a = rootU up b := by funext a b; simp
  rw [e] at hto
  refine ⟨r, hr, i, by omega, by rw [h6]; exact hw, by rw [hpU, h6]; exact hto.fn, ?_⟩
  rw [← hrn]
  exact h5
 have hC := cand_le tp (c := c) (red := red) (isRed_iff.2 ⟨0, h0, rfl⟩)
 have hS : MinOf (· ∈ candC t c red) o := by
  rcases ho with ⟨h1, h2⟩ | ⟨k, h1, h2, h3⟩
  ·exact .inl ⟨h1, fun m hm => h2 _ (hB m hm)⟩
  ·obtain ⟨m, hm, hmk⟩ := hA k h2
   have hkn : isRed c red (pU c k) = false := by
    obtain ⟨_, _, _, _, _, _, h5, _⟩ := mem_candC.1 hm
    rw [← hmk, hpU, hpU, rootU_root hF.ok, ← hpU]; exact h5
   have hkN : k < t.rows.length := by
    obtain ⟨n, i, q1, q2, q3, q4, q5, q6⟩ := mem_candC.1 hm
    have := v.to q1 (by omega : (i : Int) < t.ins) q4
    have := rootU_le hF.ok m
    rw [← hpU] at this
    omega
   obtain ⟨m', hm', hle⟩ := hC k hkN hkn
   have h4 := h3 _ (hB m' hm')
   have h5 := rootU_le hF.ok m'
   rw [← hpU] at h5
   have e : m' = k := by omega
   subst e
   exact .inr ⟨m', h1, hm', fun m2 hm2 => by
    have h6 := h3 _ (hB m2 hm2)
    have h7 := rootU_le hF.ok m2
    rw [← hpU] at h7
    omega⟩
 exact hS.uniq (nextC_min t c red)
def placeC (c l : List Nat) (k : Nat) : Int := if (l.map (pU c)).idxOf k < l.length then ((l.map (pU c)).idxOf k : Int) else -1
def edgeR (t : Mach) (c red : List Nat) (s i : Nat) : Int × Int :=
 match (List.range t.rows.length).reverse.find? fun n => decide (pU c n = pU c ((red[s]?).getD 0)) && decide ((eT t n i).1 ≠ -1) with
 | some n => (placeC c red (pU c (eT t n i).1.toNat), (eT t n i).2)
 | none => (-1, -1)
def machC (t : Mach) (c red : List Nat) : List (List (Int × Int)) := (List.range red.length).map fun s => (List.range t.ins.toNat).map (edgeR t c red s)
theorem idxOf_cast (l : List Nat) (k : Nat) : (l.map fun (x : Nat) => (x : Int)).idxOf (k : Int) = l.idxOf k := by
 induction l with
 | nil => rfl
 | cons x l ih =>
   rw [List.map_cons, List.idxOf_cons, List.idxOf_cons, ih]
   by_cases h : x = k
   ·subst h; simp
   ·have h1 : (x == k) = false := by simpa using h
    have h2 : ((x : Int) == (k : Int)) = false := beq_eq_false_iff_ne.2 fun e => h (Int.ofNat.inj e)
    rw [h1, h2]
theorem next_none {t : Mach} (v : TV t) {I : Nat} (hI : t.ins = (I : Int)) {up : List Nat} {W : Nat → Nat → Int × Int} (hF : FI t up W fun _ _ => False) {red : List Nat} (hred : ∀ r ∈ red, r < t.rows.length) (hn : nextC t (rootsL up t.rows.length) red < 0) :
  ∀ r ∈ red, ∀ i, i < I → (W (rootU up r) i).1 ≠ -1 → ∃ r' ∈ red, rootU up r' = rootU up (W (rootU up r) i).1.toNat := by
 intro r hr i hi hw
 have hpU := rootsL_pU hF.ok hF.len
 have hrN := hred r hr
 have hpN : rootU up r < t.rows.length := by have := rootU_le hF.ok r; omega
 obtain ⟨m, k1, k2, k3⟩ := hF.row (rootU up r) i hpN (rootU_root hF.ok r) (by omega) (knownE_to hw)
 rw [k3] at hw ⊢
 cases hx : isRed (rootsL up t.rows.length) red (pU (rootsL up t.rows.length) (eT t m i).1.toNat) with
 | true =>
   obtain ⟨r', h1, h2⟩ := isRed_iff.1 hx
   rw [hpU, hpU] at h2
   exact ⟨r', h1, h2⟩
 | false =>
   exfalso
   have hm := nextC_min t (rootsL up t.rows.length) red
   have hc : (eT t m i).1.toNat ∈ candC t (rootsL up t.rows.length) red := mem_candC.2 ⟨m, i, k1, by omega, isRed_iff.2 ⟨r, hr, by rw [hpU, hpU, k2]⟩, hw, hx, rfl⟩
   rcases hm with ⟨_, h2⟩ | ⟨k, h1, _⟩
   ·exact h2 _ hc
   ·omega
theorem machine_eq {t : Mach} (v : TV t) {I : Nat} (hI : t.ins = (I : Int)) {up : List Nat} {W : Nat → Nat → Int × Int} (hF : FI t up W fun _ _ => False) {red : List Nat} (hred : ∀ r ∈ red, r < t.rows.length) (hn : nextC t (rootsL up t.rows.length) red < 0) :
  ((List.range red.length).map fun s => rowM up red W I s) = machC t (rootsL up t.rows.length) red := by
 have hpU := rootsL_pU hF.ok hF.len
 have hall := next_none v hI hF hred hn
 have hin := v.ins
 have hIn : t.ins.toNat = I := by omega
 unfold machC rowM
 refine List.map_congr_left fun s hs => ?_
 have hs := List.mem_range.1 hs
 rw [hIn]
 refine List.map_congr_left fun i hi => ?_
 have hi := List.mem_range.1 hi
 have hx : red[s]? = some red[s] := List.getElem?_eq_getElem hs
 have hxm := List.getElem_mem hs
 have hxN := hred _ hxm
 unfold edgeM edgeR
 rw [hx]
 simp only [Option.getD_some]
 generalize red[s] = x at hxm hxN
 have hpN : rootU up x < t.rows.length := by have := rootU_le hF.ok x; omega
 cases hfd : (List.range t.rows.length).reverse.find? fun n => decide (pU (rootsL up t.rows.length) n = pU (rootsL up t.rows.length) x) && decide ((eT t n i).1 ≠ -1) with
 | none =>
   rw [List.find?_eq_none] at hfd
   rw [if_neg]
   intro hw
   obtain ⟨m, k1, k2, k3⟩ := hF.row (rootU up x) i hpN (rootU_root hF.ok x) (by omega) (knownE_to hw)
   refine hfd m (List.mem_reverse.2 (List.mem_range.2 k1)) ?_
   rw [hpU, hpU, k2, ← k3]
   simp [hw]
 | some n =>
   have h1 := List.find?_some hfd
   have h2 := List.mem_range.1 (List.mem_reverse.1 (List.mem_of_find?_eq_some hfd))
   simp only [Bool.and_eq_true, decide_eq_true_eq, hpU] at h1
   obtain ⟨h3, h4⟩ := h1
   obtain ⟨k1, k2, k3⟩ := hF.node n i h2 (by omega) (knownE_to h4)
   rw [h3] at k1 k2 k3
   have hcl := (clashE_iff (knownE_to h4) k1).1 k2
   have hw : (W (rootU up x) i).1 ≠ -1 := fun e => h4 (hcl.1.2 e)
   have hto := k3 (bothE_iff.2 ⟨h4, hw⟩)
   have e : (fun a b => rootU up a = rootU up b ∨ False) = fun a b => rootU up a = rootU up b := by funext a b; simp
   rw [e] at hto
   have hto := hto.fn
   obtain ⟨r', hr1, hr2⟩ := hall x hxm i hi hw
   rw [if_pos hw]
   simp only
   rw [hcl.2 h4, hpU, hto]
   have hE : redE up red = (red.map (pU (rootsL up t.rows.length))).map fun (x : Nat) => (x : Int) := by
    rw [List.map_map, redE]
    exact List.map_congr_left fun r _ => by simp [hpU]
   rw [hE, idxOf_cast, placeC, if_pos]
   have hmem : rootU up (W (rootU up x) i).1.toNat ∈ red.map (pU (rootsL up t.rows.length)) := List.mem_map.2 ⟨r', hr1, by rw [hpU]; exact hr2⟩
   have := List.idxOf_lt_length_of_mem hmem
   rwa [List.length_map] at this
end Go.Avl
namespace Go.Avl
open Go Go.Proofs.Try
set_option maxRecDepth 10000
set_option linter.unusedSimpArgs false
def mergeC (t : Mach) : Nat → List Nat → List Nat → Option (List (List (Int × Int)))
 | 0, _, _ => none
 | f + 1, c, red => if 64 < red.length then none else if nextC t c red < 0 then some (machC t c red) else
   match absorbC t c red (nextC t c red).toNat with
   | some d => mergeC t f d red
   | none => mergeC t f c (red ++ [(nextC t c red).toNat])
def mergeT (t : Mach) : Option (List (List (Int × Int))) := mergeC t (t.rows.length * t.rows.length + 67) (List.range t.rows.length) [0]
theorem absorb_inv {t : Mach} {c d red : List Nat} {n : Nat} (h : absorbC t c red n = some d) : ∃ r ∈ red, foldC t c r n = some d := by
 unfold absorbC at h
 obtain ⟨r, h1, h2⟩ := List.exists_of_findSome?_eq_some h
 exact ⟨r, h1, h2⟩
theorem absorb_inv_none {t : Mach} {c red : List Nat} {n : Nat} (h : absorbC t c red n = none) : ∀ r ∈ red, foldC t c r n = none := by
 unfold absorbC at h
 rwa [List.findSome?_eq_none_iff] at h
theorem next_node {t : Mach} (v : TV t) {c red : List Nat} (h : ¬ nextC t c red < 0) : (nextC t c red).toNat < t.rows.length ∧ isRed c red (pU c (nextC t c red).toNat) = false ∧ (((nextC t c red).toNat : Nat) : Int) = nextC t c red := by
 have hin := v.ins
 rcases nextC_min t c red with ⟨h1, _⟩ | ⟨k, h1, h2, _⟩
 ·omega
 ·rw [h1, Int.toNat_natCast]
  obtain ⟨n, i, q1, q2, q3, q4, q5, q6⟩ := mem_candC.1 h2
  have := v.to q1 (by omega : (i : Int) < t.ins) q4
  exact ⟨by omega, q5, rfl⟩
structure RedOk (t : Mach) (c red : List Nat) : Prop where
 zero : 0 ∈ red
 lt : ∀ r ∈ red, r < t.rows.length
 sep : ∀ (i j a b : Nat), i < j → red[i]? = some a → red[j]? = some b → ∀ c', IsF t c' → (∀ x y, pU c x = pU c y → pU c' x = pU c' y) → pU c' a ≠ pU c' b
theorem RedOk.nodup {t : Mach} {c red : List Nat} (h : RedOk t c red) (hc : IsF t c) : (red.map (pU c)).Nodup := by
 refine List.pairwise_iff_getElem.2 fun i j hi hj hij => ?_
 rw [List.getElem_map, List.getElem_map]
 have hi' : i < red.length := by simpa using hi
 have hj' : j < red.length := by simpa using hj
 exact h.sep i j _ _ hij (List.getElem?_eq_getElem hi') (List.getElem?_eq_getElem hj') c hc fun _ _ h => h
theorem fold_mono {t : Mach} (v : TV t) {c d : List Nat} (hc : IsF t c) {a b : Nat} (ha : a < t.rows.length) (hb : b < t.rows.length) (h : foldC t c a b = some d) : IsF t d ∧ (∀ x y, pU c x = pU c y → pU d x = pU d y) ∧ pU d a = pU d b := by
 have hs := foldC_spec v hc ha hb
 rw [h] at hs
 exact ⟨hs.1, fun x y hxy => (hs.2.1 x y).2 (.base (.inl hxy)), (hs.2.1 a b).2 (.base (.inr ⟨rfl, rfl⟩))⟩
theorem fold_sep {t : Mach} (v : TV t) {c c' : List Nat} (hc : IsF t c) {a b : Nat} (ha : a < t.rows.length) (hb : b < t.rows.length) (h : foldC t c a b = none) (hc' : IsF t c') (hm : ∀ x y, pU c x = pU c y → pU c' x = pU c' y) : pU c' a ≠ pU c' b := fun he => by
 have hs := foldC_spec v hc ha hb
 rw [h] at hs
 obtain ⟨x, y, i, h1, h2, h3⟩ := hs
 have hxy := hc'.cong (R := pairR c a b) (fun x y hxy => by
  rcases hxy with hxy | ⟨rfl, rfl⟩
  ·exact hm x y hxy
  ·exact he) h1
 have := (hc'.clo x y i hxy h2).1
 rw [h3] at this; cases this
theorem RedOk.absorb {t : Mach} (v : TV t) {c d red : List Nat} (h : RedOk t c red) (hc : IsF t c) {n : Nat} (hn : n < t.rows.length) (hd : absorbC t c red n = some d) : RedOk t d red ∧ IsF t d := by
 obtain ⟨r, hr, hf⟩ := absorb_inv hd
 obtain ⟨h1, h2, _⟩ := fold_mono v hc (h.lt r hr) hn hf
 exact ⟨⟨h.zero, h.lt, fun i j a b hij hi hj c' hc' hm => h.sep i j a b hij hi hj c' hc' fun x y hxy => hm x y (h2 x y hxy)⟩, h1⟩
theorem RedOk.push {t : Mach} (v : TV t) {c red : List Nat} (h : RedOk t c red) (hc : IsF t c) {n : Nat} (hn : n < t.rows.length) (hd : absorbC t c red n = none) : RedOk t c (red ++ [n]) := by
 have hno := absorb_inv_none hd
 refine ⟨List.mem_append_left _ h.zero, fun r hr => ?_, fun i j a b hij hi hj c' hc' hm => ?_⟩
 ·rcases List.mem_append.1 hr with hr | hr
  ·exact h.lt r hr
  ·rw [List.mem_singleton.1 hr]; exact hn
 ·by_cases hjl : j < red.length
  ·rw [List.getElem?_append_left hjl] at hj
   rw [List.getElem?_append_left (by omega)] at hi
   exact h.sep i j a b hij hi hj c' hc' hm
  ·have hjn : j = red.length := by
     have := (List.getElem?_eq_some_iff.1 hj).1
     simp at this; omega
   subst hjn
   rw [List.getElem?_append_right (Nat.le_refl _), Nat.sub_self] at hj
   cases hj
   rw [List.getElem?_append_left hij] at hi
   have ham := List.mem_of_getElem? hi
   exact fold_sep v hc (h.lt a ham) hn (hno a ham) hc' hm
theorem absorb_sum {t : Mach} (v : TV t) {c d red : List Nat} (h : RedOk t c red) (hc : IsF t c) {n : Nat} (hn : n < t.rows.length) (hnr : isRed c red (pU c n) = false) (hd : absorbC t c red n = some d) : sumR d t.rows.length < sumR c t.rows.length := by
 obtain ⟨r, hr, hf⟩ := absorb_inv hd
 have hrN := h.lt r hr
 obtain ⟨h1, h2, h3⟩ := fold_mono v hc hrN hn hf
 have hle : ∀ k, pU d k ≤ pU c k := fun k => by
  have := h2 k (pU c k) (hc.can.fix k).symm
  rw [this]
  exact h1.can.le _
 have hne : pU c r ≠ pU c n := fun e => by
  rw [show isRed c red (pU c n) = true from isRed_iff.2 ⟨r, hr, e⟩] at hnr
  cases hnr
 have hrr := hc.can.le r
 have hnn := hc.can.le n
 have e1 := h2 r (pU c r) (hc.can.fix r).symm
 have e2 := h2 n (pU c n) (hc.can.fix n).symm
 refine (sumR_less (q := max (pU c r) (pU c n)) (fun k => by rw [h1.can.root, hc.can.root]; exact hle k) ?_ t.rows.length).2 (by omega)
 rw [h1.can.root, hc.can.root]
 by_cases hlt : pU c r < pU c n
 ·rw [Nat.max_eq_right (by omega), hc.can.fix, ← e2, ← h3, e1]
  have := h1.can.le (pU c r); omega
 ·rw [Nat.max_eq_left (by omega), hc.can.fix, ← e1, h3, e2]
  have := h1.can.le (pU c n); omega
theorem redOk_zero {t : Mach} (v : TV t) : RedOk t (List.range t.rows.length) [0] := by
 have := v.rows
 refine ⟨by simp, fun r hr => by rw [List.mem_singleton.1 hr]; omega, fun i j a b hij hi hj => ?_⟩
 have := (List.getElem?_eq_some_iff.1 hj).1
 simp at this; omega
theorem redE_nodup {t : Mach} {up red : List Nat} (hu : UpOk up) (hl : up.length = t.rows.length) (h : (red.map (pU (rootsL up t.rows.length))).Nodup) : (redE up red).Nodup := by
 have hE : redE up red = (red.map (pU (rootsL up t.rows.length))).map fun (x : Nat) => (x : Int) := by
  rw [List.map_map, redE]
  exact List.map_congr_left fun r _ => by simp [rootsL_pU hu hl]
 rw [hE]
 refine List.pairwise_iff_getElem.2 fun i j hi hj hij he => ?_
 have h1 := List.pairwise_iff_getElem.1 h i j (by simpa using hi) (by simpa using hj) hij
 simp only [List.getElem_map] at he h1
 omega
end Go.Avl
namespace Go.Avl
open Go Go.Proofs.Try
set_option maxRecDepth 10000
set_option linter.unusedSimpArgs false
def zeroM : AV := .ag [.sc (.int .i64 0), .sc (.int .i64 0), .sl true [] .zer]
def mergeRes (t : Mach) : AV :=
 if nodesE t [] ≠ 0 then .tu [zeroM, .sc (.int .i64 (nodesE t []))]
 else match mergeT t with
  | some rows => .tu [.ag [.sc (.int .i64 t.ins), .sc (.int .i64 t.outs), .sl false (rows.map rowFu) .full], .sc (.int .i64 0)]
  | none => .tu [zeroM, .sc (.int .i64 3)]
theorem sumR_rootsL {up : List Nat} (h : UpOk up) {N : Nat} (hl : up.length = N) (n : Nat) : sumR (rootsL up N) n = sumR up n := sumR_same (fun k => by rw [(rootsL_can h hl).root, rootsL_pU h hl]) n
theorem FI.rowsIn {t : Mach} (v : TV t) {I : Nat} (hI : t.ins = (I : Int)) {up : List Nat} {W : Nat → Nat → Int × Int} {P : Nat → Nat → Prop} (h : FI t up W P) : ∀ p i, p < t.rows.length → rootU up p = p → i < I → (W p i).1 = -1 ∨ (0 ≤ (W p i).1 ∧ (W p i).1 < t.rows.length) := fun p i hp hpr hi => by
 by_cases hw : (W p i).1 = -1
 ·exact .inl hw
 ·obtain ⟨m, h1, _, h3⟩ := h.row p i hp hpr (by omega) (knownE_to hw)
  rw [h3] at hw ⊢
  have := v.to h1 (by omega : (i : Int) < t.ins) hw
  exact .inr (by omega)
theorem mlook_above : ∀ {X : Mem} {b k : Nat}, (X.all fun p => decide (p.1 < b)) = true → b ≤ k → mlook X k = none
 | [], _, _, _, _ => rfl
 | (i, o) :: X, b, k, h, hk => by
   simp only [List.all_cons, Bool.and_eq_true, decide_eq_true_eq] at h
   simp only [mlook]
   rw [if_neg (by omega)]
   exact mlook_above h.2 hk
theorem foldM_framedX {N I : Nat} (hN : N ≤ 1000000) (up : List Nat) (W : Nat → Nat → Int × Int) {X : Mem} (hX : (X.all fun p => decide (p.1 < 1000200)) = true) : Framed X (.rf 1000200 0) (foldM N I up W) 3000000 := by
 refine ⟨osegK [(1000200, 1000200), (1000201, 1000201), (1000202, 1000202)] N [], osegK_ok (A := [(1000200, 1000200), (1000201, 1000201), (1000202, 1000202)]) rfl rfl rfl hN (by omega), foldM_ren hN up W, ?_, ?_⟩
 ·simp only [go_sem, rlook_osegK_hi hN, List.append_nil] <;> rfl
 rw [List.all_eq_true]
 intro p hp
 rw [osegK, List.append_nil] at hp
 rcases List.mem_append.1 hp with hp | hp
 ·simp only [List.mem_cons, List.mem_nil_iff, or_false] at hp
  rcases hp with rfl | rfl | rfl <;> simp [mlook_above hX]
 ·obtain ⟨i, hi, rfl⟩ := mem_oK hp
  simp [mlook_above hX (show 1000200 ≤ 2000000 + i by omega)]
set_option maxHeartbeats 8000000 in
theorem merge20_is (t : Mach) (hr : ∀ r ∈ t.rows, r.2.length < 1000000) (hf : RowsF t) : PureIs prog 20 [.ag t.cells] (mergeRes t) := by
 have hN := nodes37_is t hr true [] .zer (by simp)
 rw [show ([] : List Int).map intC = [] from rfl] at hN
 unfold mergeRes zeroM
 generalize hne : nodesE t [] = e at hN
 refine PureIs.of (nv := 8) (hid := [11, 14, 16, 19, 26, 35, 15, 20, 21, 22, 23, 27, 28, 29, 31, 32, 33]) func20 rfl (by kernel_rfl) (by simp [ntmps20]) fun _ => ?_
 rw [ntmps20, results20]
 refine EvC.seq (EvC.rg (by simp only [go_sem, Mach.cells] <;> rfl) (by simp) ?_)
 refine EvC.frzB 0 (by simp only [go_sem] <;> rfl) ?_
 rw [Mach.cells] at hN
 refine EvC.seq ?_
 apply EvC.seq
 apply EvC.tr
 ·apply Tr.run
  ·simp only [go_sem] <;> rfl
  ·simp
  apply Tr.cons
  ·exact .call rfl rfl (by simp only [go_sem] <;> rfl) (by simp only [go_sem] <;> rfl) (by simp only [go_sem] <;> rfl) (by simp only [go_sem] <;> rfl) (by simp only [go_sem] <;> rfl) (hN)
  apply Tr.done
  ·simp only [go_sem] <;> rfl
  ·simp
 refine EvC.seq (EvC.rg (by simp only [go_sem] <;> rfl) (by simp) ?_)
 by_cases he : e = 0
 rotate_left
 ·rw [if_pos he]
  refine EvC.cond_true (by simp only [go_sem, decide_eq_false he] <;> rfl) ?_
  refine EvC.seq (EvC.rg (by simp only [go_sem] <;> rfl) (by simp) ?_)
  refine EvC.ret ⟨.inl rfl, _, (by simp only [go_sem] <;> rfl), ?_, rfl⟩
  simp only [go_sem]
 rw [if_neg (fun h => h he)]
 subst he
 obtain ⟨v, _⟩ := nodesE_ok hne
 have hck : checkT t = 0 := by
  unfold nodesE at hne
  by_cases h : checkT t = 0
  ·exact h
  ·rw [if_pos h] at hne; exact absurd hne h
 have tp := TP.of hck
 have hin := v.ins
 have hrw := v.rows
 have hI : t.ins = ((t.ins.toNat : Nat) : Int) := (Int.toNat_of_nonneg (by omega)).symm
 obtain ⟨I, hId⟩ : ∃ I, I = t.ins.toNat := ⟨_, rfl⟩
 rw [← hId] at hI
 refine EvC.cond_false (by simp only [go_sem] <;> rfl) ?_
 refine EvC.skip ?_
 apply EvC.seq
 apply EvC.rs
 ·simp only [go_sem] <;> rfl
 ·simp
 obtain ⟨N, hNd⟩ : ∃ N, N = t.rows.length := ⟨_, rfl⟩
 have hn1 : N ≤ 1000000 := by omega
 have hal := fun R => alone42_body v (v.rowsF hf) hI (R := R)
 rw [← hNd] at hal
 refine XR.gcTo ⟨[(1, .ia t.cells), (2, .rf 1000050 0), (14, .ag t.cells)], [], [] ++ [(1000050, .cells [.sc (.int .i64 0), .sc (.int .i64 0), .sl true [] .zer])], 1000100⟩ [1, 2, 14] [(1, 1000050)] rfl (by simp only [go_sem, Mach.cells, List.nil_append] <;> rfl) ?_
 refine XR.callF [] [(1000050, .cells [.sc (.int .i64 0), .sc (.int .i64 0), .sl true [] .zer])] rfl rfl (by simp only [go_sem] <;> rfl) (by simp only [go_sem] <;> rfl) (by simp only [go_sem] <;> rfl) (by simp only [go_sem] <;> rfl) rfl ?_
 refine hal _ ?_
 refine ⟨by simp, foldM_framedX hn1 _ _ rfl, ?_⟩
 apply XR.done
 ·simp only [go_sem] <;> rfl
 ·simp
 obtain ⟨up0, hup0⟩ : ∃ u, u = List.range N := ⟨_, rfl⟩
 have hLX := fun X k hk => otab_lookX 2 edgeC (eT t) (n := N) (m := I) hn1 X k hk
 have hoc := ocell_len I N
 rw [← hup0]
 unfold foldM
 refine EvC.ofzAll N (fun i hi => ⟨2, gcells edgeC (eT t i) I, false, by simp only [List.cons_append, mlook, o_ne (show i < 1000000 by omega), if_false, otab_getX 2 edgeC (eT t) _ hi, go_sem], gcells_norefs norefs_edgeC _ _⟩) ?_
 have hfz := fun X => otab_fzX 2 edgeC (eT t) N I X
 obtain ⟨MM, hMM⟩ : ∃ MM : Mem, MM = (1000200, .cells [.tv 1000201 N 0 N .unk, .tv 1000202 N 0 N .unk]) :: (1000201, .arr 1 (up0.map natC) false) :: (1000202, .arr 1 (ocell I N) false) :: (otabF 2 edgeC (eT t) N I ++ [(1000050, .cells [.sc (.int .i64 0), .sc (.int .i64 0), .sl true [] .zer])]) := ⟨_, rfl⟩
 have hsn : (ocell I N).map (fun c => c.map (AV.deep (snap MM))) = rowsV (eT t) N I := ocell_snap (e := 2) (row := fun s => gcells edgeC (eT t s) I) (fun s hs => by
  rw [hMM]
  simp only [mlook, o_ne (show s < 1000000 by omega), if_false, mlook_append, otabF_look 2 edgeC (eT t) hs, go_sem]) (fun s _ => gcells_len _ _ _)
 rw [hMM] at hsn
 have hvl := rowsV_len (eT t) N I
 have hvn : (rowsV (eT t) N I).all AV.norefs = true := by simp [rowsV, List.all_eq_true, AV.norefs, AV.noref]
 have hLF : ∀ X k, notO k = true → mlook (otabF 2 edgeC (eT t) N I ++ X) k = mlook X k := fun X k hk => by
  rw [mlook_append, show mlook (otabF 2 edgeC (eT t) N I) k = none from by
   rw [otabF, mlook_msegA]
   split
   ·rw [List.getElem?_eq_none]
    unfold notO at hk; simp at hk; simp; omega
   ·rfl]
 have hmF : ∀ f, memMap f (otabF 2 edgeC (eT t) N I) = otabF 2 edgeC (eT t) N I := fun f => by rw [otabF, memMap_msegA, List.map_map]; rfl
 refine EvC.snapA 1000202 (by simp only [go_sem, List.cons_append, ofzAll_cons hn1, hfz, hsn] <;> rfl) ?_
 refine EvC.frzD 1000202 (by simp only [go_sem, hvn, hvl, memMap_append, hmF] <;> rfl) ?_
 refine EvC.gcE (st2 := ⟨[(1, .ia t.cells), (2, .rf 1000050 0), (5, .rf 1000010 0)], [], frM N up0 (rowsV (eT t) N I) ++ [(1000050, .cells [.sc (.int .i64 0), .sc (.int .i64 0), .sl true [] .zer])], 1000100⟩) [1, 2, 5] [(1000200, 1000010), (1000201, 1000011), (1000050, 1000050)] 1000100 rfl (by simp only [go_sem, hLF, frM, List.cons_append, List.nil_append] <;> rfl) ?_
 refine EvC.seq (EvC.rg (by simp only [go_sem] <;> rfl) (by simp) ?_)
 refine EvC.fz 1000100 (by simp only [go_sem] <;> rfl) ?_
 refine EvC.seq ?_
 refine EvC.block ?_
 obtain ⟨res, hres⟩ : ∃ res, res = mergeT t := ⟨_, rfl⟩
 rw [← hres]
 clear hMM hsn hLX hfz hLF hmF hvn hvl
 refine EvC.loopS (σ := Nat × List Nat × (Nat → Nat → Int × Int) × List Nat) (fun g => ⟨[(1, .ia t.cells), (2, .rf 1000050 0), (5, .rf 1000010 0), (6, .tl 1000040 g.2.2.2.length false)], [], frM N g.2.1 (rowsV g.2.2.1 N I) ++ [(1000050, .cells [.sc (.int .i64 0), .sc (.int .i64 0), .sl true [] .zer]), (1000040, .arr 1 (g.2.2.2.map natC) true)], 1000100⟩) (fun g => g.1)
  (fun g => FI t g.2.1 g.2.2.1 (fun _ _ => False) ∧ RedOk t (rootsL g.2.1 N) g.2.2.2 ∧ mergeC t g.1 (rootsL g.2.1 N) g.2.2.2 = res ∧ sumR g.2.1 N + 66 < g.1 + g.2.2.2.length ∧ g.2.2.2.length ≤ 65) [1, 2, 5, 6] 1000100 ?_ ?_
 ·refine ⟨[(1000010, 1000010), (1000011, 1000011), (1000050, 1000050), (1000100, 1000040)], (N * N + 67, up0, eT t, [0]), rfl, ?_, ?_, ?_, ?_, ?_, by simp⟩
  ·simp only [go_sem, frM, List.cons_append, List.nil_append, List.map_cons, List.map_nil, natC, List.length_singleton, Int.natCast_zero] <;> rfl
  ·rw [hup0, hNd]; exact FI.alone t
  ·rw [hup0, rootsL_range, hNd]; exact redOk_zero v
  ·rw [hup0, rootsL_range, hres, mergeT, hNd]
  ·have := sumR_le (up := up0) (by rw [hup0]; exact upOk_range N) N
   simp only [List.length_singleton]; omega
 rintro ⟨f, up, W, red⟩ ⟨hF, hro, hm, hfu, hle⟩
 simp only at hF hro hm hfu hle ⊢
 have hrl : (red.map natC).length = red.length := List.length_map _
 unfold frM
 refine EvC.seq ?_
 refine EvC.seq (EvC.rg (by simp only [go_sem, List.cons_append, List.nil_append, hrl] <;> rfl) (by simp) ?_)
 refine EvC.cond (by simp only [go_sem] <;> rfl) (fun hc => ?_) (fun hc => ?_)
 rotate_left
 ·
  have hlt : ¬ red.length ≤ 64 := by have : ¬ (red.length : Int) ≤ 64 := by simpa using hc
                                     omega
  have hres : res = none := by
   rw [← hm]
   cases f with
   | zero => rfl
   | succ f => rw [mergeC, if_pos (by omega)]
  rw [hres]
  refine EvC.exit ?_
  refine EvC.seq (EvC.rg (by simp only [go_sem] <;> rfl) (by simp) ?_)
  refine EvC.ret ⟨.inl rfl, _, (by simp only [go_sem] <;> rfl), ?_, rfl⟩
  simp only [go_sem]
 have hlt : red.length ≤ 64 := by have : (red.length : Int) ≤ 64 := by simpa using hc
                                  omega
 clear hc
 refine EvC.skip ?_
 refine EvC.block ?_
 have hfis := hF.isF
 rw [← hNd] at hfis
 have hnd := redE_nodup hF.ok hF.len (by rw [← hNd]; exact hro.nodup hfis)
 have hrdN : ∀ r ∈ red, r < N := fun r hr => by rw [hNd]; exact hro.lt r hr
 have hul : up.length = N := by rw [hF.len, hNd]
 apply EvC.seq
 apply EvC.rs
 ·simp only [go_sem] <;> rfl
 ·simp
 refine XR.gcTo ⟨[(1, .ia t.cells), (2, .rf 1000050 0), (5, .rf 1000010 0), (6, .tl 1000040 red.length false), (20, .rf 1000010 0), (21, .rf 1000010 0), (22, .tl 1000040 red.length false)], [], frM N up (rowsV W N I) ++ [(1000050, .cells [.sc (.int .i64 0), .sc (.int .i64 0), .sl true [] .zer]), (1000040, .arr 1 (red.map natC) true)], 1000150⟩ [1, 2, 5, 6, 20, 21, 22] [(1000010, 1000010), (1000011, 1000011), (1000050, 1000050), (1000040, 1000040)] rfl (by simp only [go_sem, frM, List.cons_append, List.nil_append] <;> rfl) ?_
 refine XR.callF (frM N up (rowsV W N I)) [(1000050, .cells [.sc (.int .i64 0), .sc (.int .i64 0), .sl true [] .zer]), (1000040, .arr 1 (red.map natC) true)] (xs := [.rf 1000010 0, .sl false (red.map natC) .unk]) rfl rfl (by simp only [go_sem] <;> rfl) (by simp only [go_sem] <;> rfl) (by simp only [go_sem, frM, List.cons_append, List.nil_append, hrl] <;> rfl) (by simp only [go_sem] <;> rfl) rfl ?_
 refine states48_body ⟨by omega, by omega⟩ hF.ok hul _ false red .unk hrdN (by omega) hnd ?_
 intro up1 hu1 hul1 hroot1
 refine ⟨by simp, ⟨[(1000010, 1000010), (1000011, 1000011), (1000150, 1000150)], rfl, by simp only [go_sem, frM, List.cons_append, List.nil_append] <;> rfl, rfl, rfl⟩, ?_⟩
 rw [← redE_same hroot1]
 refine XR.callF (frM N up1 (rowsV W N I) ++ [(1000150, .map 3 (entsI 0 (redE up1 red)))]) [(1000050, .cells [.sc (.int .i64 0), .sc (.int .i64 0), .sl true [] .zer]), (1000040, .arr 1 (red.map natC) true)] (xs := [.rf 1000010 0, .mp 1000150]) rfl rfl (by simp only [go_sem] <;> rfl) (by simp only [go_sem] <;> rfl) (by simp only [go_sem, frM, List.cons_append, List.nil_append, hrl] <;> rfl) (by simp [go_sem]) rfl ?_
 have hF1 := hF.same hu1 (by rw [hul1, hul]) hroot1
 have hrl1 : rootsL up1 N = rootsL up N := rootsL_eq hroot1
 refine next47_body ⟨by omega, by omega⟩ (by omega) hu1 hul1 W (fun p i h1 h2 h3 => by rw [hNd] at h1 ⊢; exact hF1.rowsIn v hI p i h1 h2 h3) red hrdN ?_
 intro up2 o hu2 hul2 hroot2 hmin
 have ho := next_eq v tp hI hF1 (fun r hr => hro.lt r hr) hro.zero hmin
 rw [← hNd, hrl1] at ho
 refine ⟨by simp only [go_sem], ⟨[(1000010, 1000010), (1000011, 1000011)], rfl, by simp only [go_sem, frM] <;> rfl, rfl, rfl⟩, ?_⟩
 apply XR.done
 ·simp only [go_sem] <;> rfl
 ·simp
 have hF2 := hF1.same hu2 (by rw [hul2, hul1]) hroot2
 have hrl2 : rootsL up2 N = rootsL up N := by rw [rootsL_eq hroot2, hrl1]
 rw [← hrl2] at hro hm hfis ho
 have hsum : sumR up2 N = sumR up N := by rw [sumR_same hroot2, sumR_same hroot1]
 rw [← hsum] at hfu
 have hnd2 := redE_nodup hF2.ok hF2.len (by rw [← hNd]; exact hro.nodup hfis)
 clear hmin hF hF1 hroot1 hroot2 hrl1 hrl2 hsum hu1 hul1 hul hnd
 refine EvC.seq ?_
 refine EvC.seq (EvC.rg (by simp only [go_sem] <;> rfl) (by simp) ?_)
 by_cases hon : o < 0
 ·refine EvC.cond_true (by simp only [go_sem, decide_eq_true hon] <;> rfl) ?_
  have hresv : res = some (machC t (rootsL up2 N) red) := by
   rw [← hm]
   cases f with
   | zero => omega
   | succ f => rw [mergeC, if_neg (by omega), if_pos (by rw [← ho]; exact hon)]
  have hnn : nextC t (rootsL up2 t.rows.length) red < 0 := by rw [← hNd, ← ho]; exact hon
  have hme := machine_eq v hI hF2 (fun r hr => hro.lt r hr) hnn
  rw [← hNd] at hme
  have hal2 := next_none v hI hF2 (fun r hr => hro.lt r hr) hnn
  apply EvC.seq
  apply EvC.rs
  ·simp only [go_sem] <;> rfl
  ·simp [Mach.cells]
  refine XR.gcTo ⟨[(1, .ia t.cells), (2, .rf 1000050 0), (27, .rf 1000010 0), (28, .ag t.cells), (29, .tl 1000040 red.length false)], [], frM N up2 (rowsV W N I) ++ [(1000050, .cells [.sc (.int .i64 0), .sc (.int .i64 0), .sl true [] .zer]), (1000040, .arr 1 (red.map natC) true)], 1000100⟩ [1, 2, 27, 28, 29] [(1000010, 1000010), (1000011, 1000011), (1000050, 1000050), (1000040, 1000040)] rfl (by simp only [go_sem, frM, Mach.cells, List.cons_append, List.nil_append] <;> rfl) ?_
  refine XR.callF (frM N up2 (rowsV W N I)) [(1000050, .cells [.sc (.int .i64 0), .sc (.int .i64 0), .sl true [] .zer]), (1000040, .arr 1 (red.map natC) true)] (xs := [.rf 1000010 0, .ag t.cells, .sl false (red.map natC) .unk]) rfl rfl (by simp only [go_sem] <;> rfl) (by simp only [go_sem] <;> rfl) (by simp only [go_sem, frM, Mach.cells, List.cons_append, List.nil_append, hrl] <;> rfl) (by simp only [go_sem] <;> rfl) rfl ?_
  refine machine49_body v hI hNd hu2 hul2 W (fun p i h1 h2 h3 => by rw [hNd] at h1 ⊢; exact hF2.rowsIn v hI p i h1 h2 h3) false red .unk hrdN ⟨by
   have := List.length_pos_of_mem hro.zero; omega, by omega⟩ hnd2 (fun r hr i hi hw => ?_) ?_
  ·obtain ⟨r', h1, h2⟩ := hal2 r hr i hi hw
   exact List.mem_map.2 ⟨r', h1, by rw [h2]⟩
  intro up3 hu3 hul3 hroot3
  have hrows : ((List.range red.length).map fun s => rowFu (rowM up2 red W I s)) = (machC t (rootsL up2 N) red).map rowFu := by
   rw [← hme, List.map_map]; rfl
  rw [hrows, hresv]
  refine ⟨by simp, ⟨[(1000010, 1000010), (1000011, 1000011), (1000101, 1000101)], rfl, by simp only [go_sem, frM, List.cons_append, List.nil_append] <;> rfl, rfl, rfl⟩, ?_⟩
  apply XR.done
  ·simp only [go_sem, frM, List.cons_append, List.nil_append] <;> rfl
  ·simp
  refine EvC.ret ⟨.inl rfl, _, (by simp only [go_sem] <;> rfl), ?_, rfl⟩
  simp only [go_sem]
 refine EvC.cond_false (by simp only [go_sem, decide_eq_false hon] <;> rfl) ?_
 refine EvC.skip ?_
 have hnn : ¬ nextC t (rootsL up2 t.rows.length) red < 0 := by rw [← hNd, ← ho]; exact hon
 obtain ⟨hn1', hn2', hn3'⟩ := next_node v hnn
 rw [← hNd, ← ho] at hn1' hn2' hn3'
 rw [← hNd, ← ho] at hnn
 obtain ⟨n, hnd⟩ : ∃ n, n = o.toNat := ⟨_, rfl⟩
 rw [← hnd] at hn1' hn2' hn3'
 subst hn3'
 have hf0 : f ≠ 0 := by omega
 obtain ⟨f, rfl⟩ : ∃ k, f = k + 1 := ⟨f - 1, by omega⟩
 have hmn : mergeC t (f + 1) (rootsL up2 N) red = match absorbC t (rootsL up2 N) red n with
   | some d => mergeC t f d red
   | none => mergeC t f (rootsL up2 N) (red ++ [n]) := by
  rw [mergeC, if_neg (by omega), ← ho, if_neg hon, Int.toNat_natCast]
  all_goals rfl
 have hab := fun R => absorb50_body v hI hF2 false red .unk (fun r hr => hro.lt r hr) (by omega) (n := n) (by rw [← hNd]; exact hn1') (R := R)
 rw [← hNd] at hab
 have hnt : n < t.rows.length := by rw [← hNd]; exact hn1'
 apply EvC.seq
 apply EvC.rs
 ·simp only [go_sem] <;> rfl
 ·simp
 refine XR.gcTo ⟨[(1, .ia t.cells), (2, .rf 1000050 0), (5, .rf 1000010 0), (6, .tl 1000040 red.length false), (7, .sc (.int .i64 n)), (31, .rf 1000010 0), (32, .tl 1000040 red.length false), (33, .sc (.int .i64 n))], [], frM N up2 (rowsV W N I) ++ [(1000050, .cells [.sc (.int .i64 0), .sc (.int .i64 0), .sl true [] .zer]), (1000040, .arr 1 (red.map natC) true)], 1000100⟩ [1, 2, 5, 6, 7, 31, 32, 33] [(1000010, 1000010), (1000011, 1000011), (1000050, 1000050), (1000040, 1000040)] rfl (by simp only [go_sem, frM, List.cons_append, List.nil_append] <;> rfl) ?_
 refine XR.callF (frM N up2 (rowsV W N I)) [(1000050, .cells [.sc (.int .i64 0), .sc (.int .i64 0), .sl true [] .zer]), (1000040, .arr 1 (red.map natC) true)] (xs := [.rf 1000010 0, .sl false (red.map natC) .unk, .sc (.int .i64 n)]) rfl rfl (by simp only [go_sem] <;> rfl) (by simp only [go_sem] <;> rfl) (by simp only [go_sem, frM, List.cons_append, List.nil_append, hrl] <;> rfl) (by simp only [go_sem] <;> rfl) rfl ?_
 refine hab _ ?_ ?_
 ·intro up' W' hF' hd
  rw [hd] at hmn
  rw [hmn] at hm
  obtain ⟨hro', hfis'⟩ := hro.absorb v hfis hnt hd
  have hsum := absorb_sum v hro hfis hnt hn2' hd
  rw [← hNd, sumR_rootsL hF'.ok (by rw [hF'.len, hNd]), sumR_rootsL hF2.ok (by rw [hF2.len, hNd])] at hsum
  refine ⟨by simp, ⟨[(1000010, 1000010), (1000201, 1000201)], rfl, by simp only [go_sem, frM2] <;> rfl, rfl, rfl⟩, ?_⟩
  apply XR.done
  ·simp only [go_sem, frM2, List.cons_append, List.nil_append] <;> rfl
  ·simp
  refine EvC.cond_false (by simp only [go_sem] <;> rfl) ?_
  refine EvC.skip ?_
  exact ⟨[(1000010, 1000010), (1000201, 1000011), (1000050, 1000050), (1000040, 1000040)], (f, up', W', red), rfl, (by simp only [go_sem, frM, frM2, List.cons_append, List.nil_append] <;> rfl), ⟨hF', hro', hm, by simp only; omega, hle⟩, by simp⟩
 ·intro hd
  rw [hd] at hmn
  rw [hmn] at hm
  have hro' := hro.push v hfis hnt hd
  refine ⟨by simp, ⟨[(1000010, 1000010), (1000011, 1000011)], rfl, by simp only [go_sem, frM] <;> rfl, rfl, rfl⟩, ?_⟩
  apply XR.done
  ·simp only [go_sem] <;> rfl
  ·simp
  refine EvC.cond_true (by simp only [go_sem] <;> rfl) ?_
  unfold frM
  have hr2 : room (red.length + 1) 8 = true := by simp only [room_eq, decide_eq_true_eq]; omega
  have hnx : red.map natC ++ [[.sc (.int .i64 (n : Int))]] = (red ++ [n]).map natC := by rw [List.map_append]; rfl
  refine EvC.rg (by simp only [go_sem, List.cons_append, List.nil_append, hrl, hnx] <;> rfl) (by simp [hr2]) ?_
  exact ⟨[(1000010, 1000010), (1000011, 1000011), (1000050, 1000050), (1000040, 1000040)], (f, up2, W, red ++ [n]), rfl, (by simp only [go_sem, frM, List.cons_append, List.nil_append, List.length_append, List.length_singleton] <;> rfl), ⟨hF2, hro', hm, by simp only [List.length_append, List.length_singleton]; omega, by simp only [List.length_append, List.length_singleton]; omega⟩, by simp⟩
end Go.Avl
namespace Go.Avl
open Go Go.Proofs.Try
set_option maxRecDepth 10000
set_option linter.unusedSimpArgs false
def compAns (t : Mach) (a b : Int) : AV :=
 if nodesE t [a, b] ≠ 0 then .tu [.sc (.bool false), .sc (.int .i64 (nodesE t [a, b]))] else .tu [.sc (.bool (compB t a.toNat b.toNat)), .sc (.int .i64 0)]
def prC (p : Nat × Nat) : List AV := [.sc (.int .i64 p.1), .sc (.int .i64 p.2)]
def stW (N : Nat) (st : List (Nat × Nat)) : Nat := (st.map fun p => 17 ^ (N - p.1)).sum
theorem prC_norefs (E : List (Nat × Nat)) : (E.map prC).all AV.norefs = true := by simp [prC, AV.norefs, AV.noref]
theorem stW_snoc (N : Nat) (st : List (Nat × Nat)) (p : Nat × Nat) : stW N (st ++ [p]) = stW N st + 17 ^ (N - p.1) := by simp [stW]
theorem comp_row {t : Mach} (v : TV t) {a b : Nat} (ha : a < t.rows.length) (hb : b < t.rows.length) : compB t a b = (List.range t.ins.toNat).all (compI t a b) := compB_eq v ha hb
structure StOk (t : Mach) (st : List (Nat × Nat)) : Prop where
 fst : ∀ p ∈ st, p.1 < t.rows.length
 snd : ∀ p ∈ st, p.2 < t.rows.length
 pos : ∀ (j : Nat) p, st[j]? = some p → j ≤ 15 * p.1
set_option maxHeartbeats 8000000 in
theorem comp13_is (t : Mach) (hr : ∀ r ∈ t.rows, r.2.length < 1000000) (a b : Int) : PureIs prog 13 [.ag t.cells, .sc (.int .i64 a), .sc (.int .i64 b)] (compAns t a b) := by
 have hN := nodes37_is t hr false [a, b] .full (by simp)
 rw [show [a, b].map intC = [[.sc (.int .i64 a)], [.sc (.int .i64 b)]] from rfl] at hN
 unfold compAns
 generalize hne : nodesE t [a, b] = e at hN
 refine PureIs.of (nv := 4) (hid := [6, 7, 8, 9, 10, 11, 12, 13, 20, 25, 28, 45, 46, 47, 48, 63, 71]) func13 rfl (by kernel_rfl) (by simp [ntmps13]) fun _ => ?_
 rw [ntmps13, results13]
 refine EvC.seq (EvC.rg (by simp only [go_sem, Mach.cells] <;> rfl) (by simp) ?_)
 refine EvC.frzB 0 (by simp only [go_sem] <;> rfl) ?_
 rw [Mach.cells] at hN
 refine EvC.seq ?_
 apply EvC.seq
 apply EvC.tr
 ·apply Tr.run
  ·simp only [go_sem] <;> rfl
  ·simp
  apply Tr.cons
  ·exact .call rfl rfl (by simp only [go_sem] <;> rfl) (by simp only [go_sem] <;> rfl) (by simp only [go_sem] <;> rfl) (by simp only [go_sem] <;> rfl) (by simp only [go_sem] <;> rfl) (hN)
  apply Tr.done
  ·simp only [go_sem] <;> rfl
  ·simp
 refine EvC.seq (EvC.rg (by simp only [go_sem] <;> rfl) (by simp) ?_)
 by_cases he : e = 0
 rotate_left
 ·rw [if_pos he]
  refine EvC.cond_true (by simp only [go_sem, decide_eq_false he] <;> rfl) ?_
  refine EvC.seq (EvC.rg (by simp only [go_sem] <;> rfl) (by simp) ?_)
  refine EvC.ret ⟨.inl rfl, _, (by simp only [go_sem] <;> rfl), ?_, rfl⟩
  simp only [go_sem]
 rw [if_neg (fun h => h he)]
 subst he
 obtain ⟨v, hab⟩ := nodesE_ok hne
 have ha := hab a (by simp)
 have hb := hab b (by simp)
 obtain ⟨p, rfl⟩ : ∃ p : Nat, a = p := ⟨a.toNat, by omega⟩
 obtain ⟨q, rfl⟩ : ∃ q : Nat, b = q := ⟨b.toNat, by omega⟩
 rw [Int.toNat_natCast, Int.toNat_natCast]
 have hrw := v.rows
 have hin := v.ins
 refine EvC.cond_false (by simp only [go_sem] <;> rfl) ?_
 refine EvC.skip ?_
 refine EvC.seq (EvC.rg (by simp only [go_sem] <;> rfl) (by simp) ?_)
 obtain ⟨N, hNd⟩ : ∃ N, N = t.rows.length := ⟨_, rfl⟩
 have hp : p < N := by omega
 have hq : q < N := by omega
 obtain ⟨res, hres⟩ : ∃ res, res = compB t p q := ⟨_, rfl⟩
 rw [← hres]
 refine EvC.slotTv 9 (by simp only [go_sem] <;> rfl) ?_
 refine EvC.seq ?_
 refine EvC.block ?_
 refine EvC.loopS (σ := List (Nat × Nat) × Nat) (fun g => ⟨[(3, .ia t.cells), (9, .tv 0 g.1.length 0 g.2 .rest)], [], [(0, .arr 2 (g.1.map prC) false)], 1⟩) (fun g => stW N (g.1.take g.2))
  (fun g => 1 ≤ g.1.length ∧ g.1.length ≤ 1000000 ∧ g.2 ≤ g.1.length ∧ StOk t (g.1.take g.2) ∧ (res = true ↔ ∀ x ∈ g.1.take g.2, compB t x.1 x.2 = true)) [3, 9] 1 ?_ ?_
 ·refine ⟨[(14, 0)], ([(p, q)], 1), rfl, (by simp only [go_sem, Mach.cells, List.map_cons, List.map_nil, prC] <;> rfl), by simp, by simp, by simp, ⟨?_, ?_, ?_⟩, ?_⟩
  ·intro x hx; simp at hx; subst hx; rw [← hNd]; exact hp
  ·intro x hx; simp at hx; subst hx; rw [← hNd]; exact hq
  ·intro j x hx
   simp at hx; have := (List.getElem?_eq_some_iff.1 hx).1
   simp at this; omega
  ·rw [hres]; simp
 rintro ⟨E, len⟩ ⟨h1, h2, h3, h4, h5⟩
 simp only at h1 h2 h3 h4 h5 ⊢
 have hEl : (E.map prC).length = E.length := List.length_map _
 have hEn : E ≠ [] := List.length_pos_iff.1 h1
 have htl : ((E.map prC).take len).length = len := by simp; omega
 refine EvC.seq ?_
 refine EvC.seq (EvC.rg (by simp only [go_sem, htl] <;> rfl) (by simp) ?_)
 refine EvC.cond (by simp only [go_sem] <;> rfl) (fun hc => ?_) (fun hc => ?_)
 rotate_left
 ·
  obtain rfl : len = 0 := by simpa [hEn] using hc
  have hr : res = true := h5.2 fun x hx => by simp at hx
  rw [hr]
  refine EvC.exit ?_
  refine EvC.seq (EvC.rg (by simp only [go_sem] <;> rfl) (by simp) ?_)
  refine EvC.ret ⟨.inl rfl, _, (by simp only [go_sem] <;> rfl), ?_, rfl⟩
  simp only [go_sem]
 have hlen : 0 < len := by simpa using hc
 clear hc
 refine EvC.skip ?_
 refine EvC.block ?_
 obtain ⟨k, rfl⟩ : ∃ k, len = k + 1 := ⟨len - 1, by omega⟩
 have hk : k < E.length := by omega
 obtain ⟨⟨a, b⟩, hx⟩ : ∃ x, E[k]? = some x := ⟨_, List.getElem?_eq_getElem hk⟩
 have htk : E.take (k + 1) = E.take k ++ [(a, b)] := by rw [List.take_succ, hx]; rfl
 have haN : a < N := by rw [hNd]; exact h4.fst (a, b) (by rw [htk]; simp)
 have hbN : b < N := by rw [hNd]; exact h4.snd (a, b) (by rw [htk]; simp)
 have hka : k ≤ 15 * a := h4.pos k (a, b) (by rw [htk, List.getElem?_append_right (by simp; omega)]; simp; rw [Nat.min_eq_left (by omega), Nat.sub_self]; rfl)
 have hkin : ((k : Int)).toNat = k := Int.toNat_natCast k
 have hgE : (E.map prC)[k]? = some (prC (a, b)) := by rw [List.getElem?_map, hx]; rfl
 have hg1 : ((E.map prC).take (k + 1))[k]? = some (prC (a, b)) := by rw [List.getElem?_take_of_lt (by omega), hgE]
 have hs1 : (k : Int) + ((1 : Nat) : Int) - 1 = k := by omega
 refine EvC.seq (EvC.rg (by simp only [go_sem, htl, hs1, hkin, hx, prC] <;> rfl) (by simp; exact inI64_of (by omega) (by omega)) ?_)
 refine EvC.frzB 10 (by simp only [go_sem] <;> rfl) ?_
 refine EvC.seq (EvC.rg (by simp only [go_sem, htl, hs1, hkin] <;> rfl) (by simp; refine ⟨?_, by omega⟩; exact inI64_of (by omega) (by omega)) ?_)
 obtain ⟨A, hA⟩ : ∃ A, t.rows[a]? = some A := ⟨_, List.getElem?_eq_getElem (by omega)⟩
 obtain ⟨B, hB⟩ : ∃ B, t.rows[b]? = some B := ⟨_, List.getElem?_eq_getElem (by omega)⟩
 have hAl := (v.row a A hA).1
 have hBl := (v.row b B hB).1
 have hain : (a : Int).toNat = a := Int.toNat_natCast a
 have hbin : (b : Int).toNat = b := Int.toNat_natCast b
 refine EvC.seq (EvC.rg (by simp only [go_sem, Mach.cells, hA, hain, rowC, List.length_map] <;> rfl) (by simp; try omega) ?_)
 have hcr := comp_row v (show a < t.rows.length by omega) (show b < t.rows.length by omega)
 obtain ⟨W0, hW0⟩ : ∃ W, W = stW N (E.take k) := ⟨_, rfl⟩
 have hWo : stW N (E.take (k + 1)) = W0 + 17 ^ (N - a) := by rw [htk, stW_snoc, hW0]
 have h6 : res = true ↔ (∀ x ∈ E.take k, compB t x.1 x.2 = true) ∧ ∀ j : Nat, (j : Int) < t.ins → compI t a b j = true := by
  rw [h5, htk]
  constructor
  ·intro h
   refine ⟨fun x hx => h x (List.mem_append_left _ hx), fun j hj => ?_⟩
   have := h (a, b) (by simp)
   simp only at this
   rw [hcr, List.all_eq_true] at this
   exact this j (List.mem_range.2 (by omega))
  ·rintro ⟨h, h'⟩ x hx
   rcases List.mem_append.1 hx with hx | hx
   ·exact h x hx
   ·rw [List.mem_singleton.1 hx]
    simp only
    rw [hcr, List.all_eq_true]
    intro j hj
    exact h' j (by have := List.mem_range.1 hj; omega)
 have hsk : StOk t (E.take k) := ⟨fun x hx => h4.fst x (by rw [htk]; simp [hx]), fun x hx => h4.snd x (by rw [htk]; simp [hx]), fun j x hx => h4.pos j x (by rw [htk, List.getElem?_append_left (List.getElem?_eq_some_iff.1 hx).1]; exact hx)⟩
 refine EvC.block ?_
 refine EvC.loopS (σ := Nat × List (Nat × Nat) × Nat) (fun g => ⟨[(3, .ia t.cells), (9, .tv 0 g.2.1.length 0 g.2.2 .rest), (10, .ia [.sc (.int .i64 a), .sc (.int .i64 b)]), (45, .sl A.1 (A.2.map edgeC) .unk), (46, .sc (.int .i64 A.2.length)), (47, .sc (.int .i64 g.1))], [], [(0, .arr 2 (g.2.1.map prC) false)], 1⟩) (fun g => t.ins.toNat - g.1)
  (fun g => (g.1 : Int) ≤ t.ins ∧ 1 ≤ g.2.1.length ∧ g.2.1.length ≤ 1000000 ∧ g.2.2 ≤ g.2.1.length ∧ g.2.2 ≤ 15 * a + g.1 ∧ StOk t (g.2.1.take g.2.2) ∧ stW N (g.2.1.take g.2.2) ≤ W0 + g.1 * 17 ^ (N - a - 1) ∧ (res = true ↔ (∀ x ∈ g.2.1.take g.2.2, compB t x.1 x.2 = true) ∧ ∀ j : Nat, g.1 ≤ j → (j : Int) < t.ins → compI t a b j = true)) [3, 9, 10, 45, 46, 47] 1 ?_ ?_
 ·refine ⟨[(0, 0)], (0, E, k), rfl, (by simp only [go_sem, Mach.cells, Nat.sub_zero, Int.natCast_zero, prC_norefs] <;> rfl), by simp only; omega, h1, h2, by simp only; omega, by simp only; omega, hsk, by rw [hW0]; simp, ?_⟩
  rw [h6]; simp
 clear h6 hsk h5 h4 htk hx
 rintro ⟨i, E', len⟩ ⟨k1, k2, k3, k4, k5, k6, k7, k8⟩
 simp only at k1 k2 k3 k4 k5 k6 k7 k8 ⊢
 have hiin : (i : Int).toNat = i := Int.toNat_natCast i
 refine EvC.seq (EvC.rg (by simp only [go_sem] <;> rfl) (by simp) ?_)
 refine EvC.seq ?_
 refine EvC.cond (by simp only [go_sem] <;> rfl) (fun hc => ?_) (fun hc => ?_)
 rotate_left
 ·
  have hi : ¬ (i : Int) < t.ins := by have : ¬ i < A.2.length := by simpa using hc
                                      omega
  refine EvC.exit ?_
  have hpw : 16 * 17 ^ (N - a - 1) < 17 ^ (N - a) := by
   obtain ⟨d, hd⟩ : ∃ d, N - a = d + 1 := ⟨N - a - 1, by omega⟩
   rw [hd, Nat.add_sub_cancel, Nat.pow_succ]
   have := Nat.pow_pos (n := d) (show 0 < 17 by omega)
   omega
  have hi16 : i * 17 ^ (N - a - 1) ≤ 16 * 17 ^ (N - a - 1) := Nat.mul_le_mul_right _ (by omega)
  exact ⟨[(0, 0)], (E', len), rfl, (by simp only [go_sem, Mach.cells, prC_norefs] <;> rfl), ⟨k2, k3, k4, k6, by rw [k8]; exact ⟨fun h => h.1, fun h => ⟨h, fun j h1 h2 => by omega⟩⟩⟩, by simp only; rw [hWo]; omega⟩
 have hi : (i : Int) < t.ins := by have : i < A.2.length := by simpa using hc
                                   omega
 clear hc
 refine EvC.skip ?_
 refine EvC.seq ?_
 refine EvC.block ?_
 have hiA : i < A.2.length := by omega
 have hiB : i < B.2.length := by omega
 have hxA : A.2[i]? = some (eT t a i) := by simp [eT, hA, hiA]
 have hxB : B.2[i]? = some (eT t b i) := by simp [eT, hB, hiB]
 have eA := v.edge (show a < t.rows.length by omega) hi
 have eB := v.edge (show b < t.rows.length by omega) hi
 have hci : compI t a b i = (!clashE (eT t a i) (eT t b i) && (!bothE (eT t a i) (eT t b i) || compB t (eT t a i).1.toNat (eT t b i).1.toNat)) := rfl
 generalize eT t a i = x at hxA eA hci
 generalize eT t b i = y at hxB eB hci
 obtain ⟨x1, x2⟩ := x
 obtain ⟨y1, y2⟩ := y
 simp only at eA eB hci
 have hnr := prC_norefs E'
 refine EvC.seq (EvC.rg (by simp only [go_sem, hxA, edgeC, hiin, List.length_map] <;> rfl) (by simp; try omega) ?_)
 refine EvC.gc [3, 9, 10, 11, 12, 45, 46, 47] [(0, 0), (5, 1)] 2 rfl ?_
 refine EvC.frzB 1 (by simp only [go_sem, hnr] <;> rfl) ?_
 refine EvC.seq (EvC.rg (by simp only [go_sem, Mach.cells, hB, hbin, rowC, hxB, edgeC, hiin, List.length_map] <;> rfl) (by simp; try omega) ?_)
 refine EvC.frzB 11 (by simp only [go_sem, hnr] <;> rfl) ?_
 have hK := clash38_is x1 x2 y1 y2
 refine EvC.seq ?_
 apply EvC.seq
 apply EvC.tr
 ·apply Tr.run
  ·simp only [go_sem] <;> rfl
  ·simp
  apply Tr.cons
  ·exact .call rfl rfl (by simp only [go_sem] <;> rfl) (by simp only [go_sem] <;> rfl) (by simp only [go_sem] <;> rfl) (by simp only [go_sem] <;> rfl) (by simp only [go_sem] <;> rfl) (hK)
  apply Tr.done
  ·simp only [go_sem] <;> rfl
  ·simp
 cases hck : clashE (x1, x2) (y1, y2) with
 | true =>
   rw [hck] at hci
   have hrf : res = false := by
    rw [← Bool.not_eq_true, k8]
    intro h
    have := h.2 i (Nat.le_refl _) hi
    rw [hci] at this; cases this
   rw [hrf]
   refine EvC.cond_true (by simp only [go_sem] <;> rfl) ?_
   refine EvC.seq (EvC.rg (by simp only [go_sem] <;> rfl) (by simp) ?_)
   refine EvC.ret ⟨.inl rfl, _, (by simp only [go_sem] <;> rfl), ?_, rfl⟩
   simp only [go_sem]
 | false =>
 rw [hck, Bool.not_false, Bool.true_and] at hci
 refine EvC.cond_false (by simp only [go_sem] <;> rfl) ?_
 refine EvC.skip ?_
 have hmul : (i + 1) * 17 ^ (N - a - 1) = i * 17 ^ (N - a - 1) + 17 ^ (N - a - 1) := Nat.succ_mul _ _
 have hno : bothE (x1, x2) (y1, y2) = false → (res = true ↔ (∀ x ∈ E'.take len, compB t x.1 x.2 = true) ∧ ∀ j : Nat, i + 1 ≤ j → (j : Int) < t.ins → compI t a b j = true) := fun h => by
  rw [h] at hci
  rw [k8]
  refine and_congr Iff.rfl ⟨fun g j h1 h2 => g j (by omega) h2, fun g j h1 h2 => ?_⟩
  by_cases e : j = i
  ·rw [e, hci]; rfl
  ·exact g j (by omega) h2
 by_cases hx0 : x1 = -1
 ·have d1 := decide_eq_true hx0
  have hbo : bothE (x1, x2) (y1, y2) = false := by simp [bothE, hx0]
  apply EvC.seq
  apply EvC.trd
  ·simp only [go_sem, d1] <;> rfl
  ·simp
  refine EvC.cond_false (by simp only [go_sem] <;> rfl) ?_
  refine EvC.skip ?_
  refine EvC.rg (by simp only [go_sem] <;> rfl) (by exact inI64_of (by omega) (by omega)) ?_
  exact ⟨[(0, 0)], (i + 1, E', len), rfl, (by simp only [go_sem, hnr, Mach.cells, Int.natCast_add, Int.natCast_one] <;> rfl), ⟨by simp only; omega, k2, k3, k4, by simp only; omega, k6, Nat.le_trans k7 (Nat.add_le_add_left (Nat.mul_le_mul_right _ (Nat.le_succ i)) _), hno hbo⟩, by simp only; omega⟩
 have d1 := decide_eq_false hx0
 by_cases hy0 : y1 = -1
 ·have d2 := decide_eq_true hy0
  have hbo : bothE (x1, x2) (y1, y2) = false := by simp [bothE, hy0]
  apply EvC.seq
  apply EvC.trd
  ·simp only [go_sem, d1, d2] <;> rfl
  ·simp
  refine EvC.cond_false (by simp only [go_sem] <;> rfl) ?_
  refine EvC.skip ?_
  refine EvC.rg (by simp only [go_sem] <;> rfl) (by exact inI64_of (by omega) (by omega)) ?_
  exact ⟨[(0, 0)], (i + 1, E', len), rfl, (by simp only [go_sem, hnr, Mach.cells, Int.natCast_add, Int.natCast_one] <;> rfl), ⟨by simp only; omega, k2, k3, k4, by simp only; omega, k6, Nat.le_trans k7 (Nat.add_le_add_left (Nat.mul_le_mul_right _ (Nat.le_succ i)) _), hno hbo⟩, by simp only; omega⟩
 have d2 := decide_eq_false hy0
 have hbo : bothE (x1, x2) (y1, y2) = true := by simp [bothE, hx0, hy0]
 rw [hbo, Bool.not_true, Bool.false_or] at hci
 obtain ⟨u, rfl⟩ : ∃ u : Nat, x1 = u := ⟨x1.toNat, by omega⟩
 obtain ⟨w, rfl⟩ : ∃ u : Nat, y1 = u := ⟨y1.toNat, by omega⟩
 rw [Int.toNat_natCast, Int.toNat_natCast] at hci
 have hpush : ∀ E'' : List (Nat × Nat), E''.take (len + 1) = E'.take len ++ [(u, w)] →
   StOk t (E''.take (len + 1)) ∧ stW N (E''.take (len + 1)) ≤ W0 + (i + 1) * 17 ^ (N - a - 1) ∧ (res = true ↔ (∀ x ∈ E''.take (len + 1), compB t x.1 x.2 = true) ∧ ∀ j : Nat, i + 1 ≤ j → (j : Int) < t.ins → compI t a b j = true) := fun E'' hE => by
  rw [hE]
  refine ⟨⟨fun x hx => ?_, fun x hx => ?_, fun j x hx => ?_⟩, ?_, ?_⟩
  ·rcases List.mem_append.1 hx with h | h
   ·exact k6.fst x h
   ·rw [List.mem_singleton.1 h]; simp only; omega
  ·rcases List.mem_append.1 hx with h | h
   ·exact k6.snd x h
   ·rw [List.mem_singleton.1 h]; simp only; omega
  ·have htl : (E'.take len).length = len := by simp; omega
   by_cases hj : j < len
   ·rw [List.getElem?_append_left (by omega)] at hx
    exact k6.pos j x hx
   ·have hj' := (List.getElem?_eq_some_iff.1 hx).1
    rw [List.length_append, htl, List.length_singleton] at hj'
    obtain rfl : j = len := by omega
    rw [List.getElem?_append_right (by omega), htl, Nat.sub_self] at hx
    cases hx
    simp only
    omega
  ·rw [stW_snoc]
   have : 17 ^ (N - u) ≤ 17 ^ (N - a - 1) := Nat.pow_le_pow_right (by omega) (by omega)
   simp only
   omega
  ·rw [k8]
   constructor
   ·rintro ⟨g1, g2⟩
    refine ⟨fun x hx => ?_, fun j h1 h2 => g2 j (by omega) h2⟩
    rcases List.mem_append.1 hx with h | h
    ·exact g1 x h
    ·rw [List.mem_singleton.1 h]
     have := g2 i (Nat.le_refl _) hi
     rw [hci] at this; exact this
   ·rintro ⟨g1, g2⟩
    refine ⟨fun x hx => g1 x (List.mem_append_left _ hx), fun j h1 h2 => ?_⟩
    by_cases e : j = i
    ·rw [e, hci]; exact g1 (u, w) (by simp)
    ·exact g2 j (by omega) h2
 have hEl' : (E'.map prC).length = E'.length := List.length_map _
 have hE0 : E' ≠ [] := fun e => by rw [e] at k2; simp at k2
 have hr5 : room (E'.length + 1) 16 = true := by simp only [room_eq, decide_eq_true_eq]; omega
 apply EvC.seq
 apply EvC.trd
 ·simp only [go_sem, d1, d2] <;> rfl
 ·simp
 refine EvC.cond_true (by simp only [go_sem] <;> rfl) ?_
 by_cases hfull : len = E'.length
 ·subst hfull
  have hE1 : (E' ++ [(u, w)]).take (E'.length + 1) = E'.take E'.length ++ [(u, w)] := by rw [List.take_length, List.take_of_length_le (by simp)]
  obtain ⟨g1, g2, g3⟩ := hpush _ hE1
  have hn2 := prC_norefs (E' ++ [(u, w)])
  have hm2 : E'.map prC ++ [[.sc (.int .i64 u), .sc (.int .i64 w)]] = (E' ++ [(u, w)]).map prC := by rw [List.map_append]; rfl
  have hl2 : (E' ++ [(u, w)]).length = E'.length + 1 := by simp
  generalize E' ++ [(u, w)] = E2 at *
  refine EvC.rg (by simp only [go_sem, hEl', List.length_append, List.length_singleton, hm2] <;> rfl) (by simp [hr5]; exact hE0) ?_
  refine EvC.rg (by simp only [go_sem] <;> rfl) (by exact inI64_of (by omega) (by omega)) ?_
  exact ⟨[(0, 0)], (i + 1, E2, E'.length + 1), rfl, (by simp only [go_sem, hn2, hl2, Mach.cells, Int.natCast_add, Int.natCast_one] <;> rfl), ⟨by simp only; omega, by simp only; omega, by simp only; omega, by simp only; omega, by simp only; omega, g1, g2, g3⟩, by simp only; omega⟩
 ·have hE1 : (E'.take len ++ ([(u, w)] ++ E'.drop (len + 1))).take (len + 1) = E'.take len ++ [(u, w)] := by
    rw [← List.append_assoc, List.take_append_of_le_length (by simp; omega), List.take_of_length_le (by simp; omega)]
  obtain ⟨g1, g2, g3⟩ := hpush _ hE1
  have hn2 := prC_norefs (E'.take len ++ ([(u, w)] ++ E'.drop (len + 1)))
  have hm2 : (E'.map prC).take len ++ [.sc (.int .i64 u), .sc (.int .i64 w)] :: (E'.map prC).drop (len + 1) = (E'.take len ++ ([(u, w)] ++ E'.drop (len + 1))).map prC := by rw [List.map_append, List.map_append, List.map_take, List.map_drop]; rfl
  have hl2 : (E'.take len ++ ([(u, w)] ++ E'.drop (len + 1))).length = E'.length := by simp; omega
  generalize E'.take len ++ ([(u, w)] ++ E'.drop (len + 1)) = E2 at *
  refine EvC.rg (by simp only [go_sem, hEl', hfull, hm2, List.length_singleton] <;> rfl) (by simp; omega) ?_
  refine EvC.rg (by simp only [go_sem] <;> rfl) (by exact inI64_of (by omega) (by omega)) ?_
  exact ⟨[(0, 0)], (i + 1, E2, len + 1), rfl, (by simp only [go_sem, hm2, hn2, hl2, Mach.cells, Int.natCast_add, Int.natCast_one] <;> rfl), ⟨by simp only; omega, by simp only; omega, by simp only; omega, by simp only; omega, by simp only; omega, g1, g2, g3⟩, by simp only; omega⟩
end Go.Avl
namespace Go.Avl
open Go Go.Proofs.Try
set_option maxRecDepth 10000
set_option linter.unusedSimpArgs false
theorem rows_get {a b : Mach} (h : a.rows.map (·.2) = b.rows.map (·.2)) {i : Nat} {r : Row} (hr : a.rows[i]? = some r) : ∃ n, b.rows[i]? = some (n, r.2) := by
 have h2 := congrArg (fun l => l[i]?) h
 simp only [List.getElem?_map, hr, Option.map_some] at h2
 cases hb : b.rows[i]? with
 | none => rw [hb] at h2; cases h2
 | some q => rw [hb] at h2; simp only [Option.map_some, Option.some.injEq] at h2; exact ⟨q.1, by rw [h2]⟩
theorem sameM_is {a b : Mach} (h1 : a.ins = b.ins) (h2 : a.outs = b.outs) (h3 : a.rows.map (·.2) = b.rows.map (·.2)) (hl : a.rows.length < 1000000) (hr : ∀ r ∈ a.rows, r.2.length < 1000000) : PureIs prog 22 [.ag a.cells, .ag b.cells] (.sc (.bool true)) := by
 have hl2 : b.rows.length = a.rows.length := by have := congrArg List.length h3; simpa using this.symm
 refine PureIs.of (nv := 7) (hid := [27, 32, 47, 55, 74]) func22 rfl (by kernel_rfl) (by simp [ntmps22]) fun _ => ?_
 rw [ntmps22, results22]
 refine EvC.seq (EvC.rg (by simp only [go_sem, Mach.cells] <;> rfl) (by simp) ?_)
 refine EvC.frzB 0 (by simp only [go_sem] <;> rfl) ?_
 refine EvC.frzB 1 (by simp only [go_sem] <;> rfl) ?_
 refine EvC.seq ?_
 apply EvC.seq
 apply EvC.trd
 ·simp only [go_sem, h1, h2, hl2] <;> rfl
 ·simp
 refine EvC.cond_false (by simp only [go_sem] <;> rfl) ?_
 refine EvC.skip ?_
 refine EvC.seq ?_
 refine EvC.seq (EvC.rg (by simp only [go_sem] <;> rfl) (by simp) ?_)
 refine EvC.block ?_
 refine EvC.loopS (σ := Nat) (fun i => ⟨[(2, .ia a.cells), (3, .ia b.cells), (5, .sc (.int .i64 i))], [], [], 0⟩) (fun i => a.rows.length - i) (fun i => i ≤ a.rows.length) [2, 3, 5] 0 ?_ ?_
 ·exact ⟨[], 0, rfl, (by simp only [go_sem, Mach.cells, h1, h2] <;> rfl), Nat.zero_le _⟩
 intro i hi
 refine EvC.seq ?_
 refine EvC.seq (EvC.rg (by simp only [go_sem, Mach.cells] <;> rfl) (by simp) ?_)
 refine EvC.cond (by simp only [go_sem] <;> rfl) (fun hc => ?_) (fun hc => ?_)
 rotate_left
 ·refine EvC.exit ?_
  refine EvC.seq (EvC.rg (by simp only [go_sem] <;> rfl) (by simp) ?_)
  refine EvC.ret ⟨.inl rfl, _, (by simp only [go_sem] <;> rfl), ?_, rfl⟩
  simp only [go_sem]
 have hi : i < a.rows.length := by simpa using hc
 have he : a.rows[i]? = some a.rows[i] := List.getElem?_eq_getElem hi
 have hm := List.getElem_mem hi
 generalize a.rows[i] = r at he hm
 obtain ⟨n, hb⟩ := rows_get h3 he
 obtain ⟨na, es⟩ := r
 have hes := hr _ hm
 simp only at hb hes
 refine EvC.skip ?_
 refine EvC.seq ?_
 refine EvC.block ?_
 refine EvC.seq ?_
 apply EvC.seq
 apply EvC.drd mixed
 ·simp only [go_sem, he, hb, rowC, Mach.cells] <;> rfl
 ·simp
 ·kernel_rfl
 refine EvC.cond_false (by simp only [go_sem] <;> rfl) ?_
 refine EvC.skip ?_
 refine EvC.seq (EvC.rg (by simp only [go_sem] <;> rfl) (by simp) ?_)
 refine EvC.block ?_
 refine EvC.loopS (σ := Nat) (fun k => ⟨[(2, .ia a.cells), (3, .ia b.cells), (5, .sc (.int .i64 i)), (6, .sc (.int .i64 k))], [], [], 0⟩) (fun k => es.length - k) (fun k => k ≤ es.length) [2, 3, 5, 6] 0 ?_ ?_
 ·exact ⟨[], 0, rfl, (by simp only [go_sem, Mach.cells, h1, h2] <;> rfl), Nat.zero_le _⟩
 intro k hk
 refine EvC.seq ?_
 refine EvC.seq (EvC.rg (by simp only [go_sem, he, rowC, Mach.cells] <;> rfl) (by simp) ?_)
 refine EvC.cond (by simp only [go_sem] <;> rfl) (fun hc => ?_) (fun hc => ?_)
 rotate_left
 ·refine EvC.exit ?_
  refine EvC.rg (by simp only [go_sem] <;> rfl) (by exact inI64_of (by omega) (by omega)) ?_
  exact ⟨[], i + 1, rfl, (by simp only [go_sem, Mach.cells] <;> rfl), by omega, by omega⟩
 have hk : k < es.length := by simpa using hc
 have hek : es[k]? = some es[k] := List.getElem?_eq_getElem hk
 generalize es[k] = e at hek
 refine EvC.skip ?_
 refine EvC.seq ?_
 refine EvC.block ?_
 apply EvC.seq
 apply EvC.drd mixed
 ·simp only [go_sem, he, hb, rowC, Mach.cells, hek, edgeC] <;> rfl
 ·simp
 ·kernel_rfl
 refine EvC.cond_false (by simp only [go_sem] <;> rfl) ?_
 refine EvC.skip ?_
 refine EvC.rg (by simp only [go_sem] <;> rfl) (by exact inI64_of (by omega) (by omega)) ?_
 exact ⟨[], k + 1, rfl, (by simp only [go_sem, Mach.cells] <;> rfl), by omega, by omega⟩
theorem ints_unk (l : List Int) : AV.unkss (l.map intC) = l.map intC := unkss_map intC (fun _ => rfl) l
def twoM : Mach := ⟨1, 2, false, [(false, [(1, 0)]), (false, [(0, 1)])]⟩
theorem two41_is : PureIs prog 41 [] (.ag twoM.cells) := by
 have key : PureIs prog 41 [] (.ag [.sc (.int .i64 1), .sc (.int .i64 2), .sl false [[.sl false [[.sc (.int .i64 1), .sc (.int .i64 0)]] .full], [.sl false [[.sc (.int .i64 0), .sc (.int .i64 1)]] .full]] .full]) := by
  refine PureIs.of (nv := 1) (hid := []) func41 rfl (by kernel_rfl) (by simp [ntmps41]) fun _ => ?_
  rw [ntmps41, results41]
  refine EvC.seq (EvC.rg (by simp only [go_sem] <;> rfl) (by simp) ?_)
  refine EvC.seq (EvC.rg (by simp only [go_sem] <;> rfl) (by simp) ?_)
  refine EvC.ret ⟨.inl rfl, _, (by simp only [go_sem] <;> rfl), ?_, rfl⟩
  simp only [go_sem]
 exact PureIs.weakR key
theorem chain36_is (o : Int) (r : List Int) (c : Cp) (hr : 1 ≤ r.length ∧ r.length ≤ 1000) : PureIs prog 36 [.sc (.int .i64 o), .sl false (r.map intC) c] (.ag (treeM 1 o (okLog [⟨List.replicate r.length 0, r⟩])).cells) := by
 have hT := tree11_is 1 o false [⟨List.replicate r.length 0, r⟩] .unk (fun t ht => by
  rw [List.mem_singleton.1 ht]; exact ⟨by simp, by simp; omega⟩) (by simp) (by omega)
 have hr0 : r.isEmpty = false := by cases r with
  | nil => simp at hr
  | cons => rfl
 have hz0 : (List.replicate r.length (0 : Int)).isEmpty = false := by cases r with
  | nil => simp at hr
  | cons => rfl
 have hT' : PureIs prog 11 [.ag [.sc (.int .i64 1), .sc (.int .i64 o), .sl false [[.sl false (List.replicate r.length [.sc (.int .i64 0)]) .unk, .sl false (r.map intC) c]] .unk]] (.ag (treeM 1 o (okLog [⟨List.replicate r.length 0, r⟩])).cells) := by
  refine PureIs.weak ?_
  have e : [AV.ag [.sc (.int .i64 1), .sc (.int .i64 o), .sl false [[.sl false (List.replicate r.length [.sc (.int .i64 0)]) .unk, .sl false (r.map intC) c]] .unk]].map AV.unk = [.ag [.sc (.int .i64 (1 : Nat)), .sc (.int .i64 o), .sl false ([⟨List.replicate r.length 0, r⟩].map traceC) .unk]] := by
   have h1 : AV.unkss (List.replicate r.length [AV.sc (.int .i64 0)]) = List.replicate r.length [.sc (.int .i64 0)] := by
    rw [unkss_eq, List.map_replicate]; rfl
   simp [AV.unk, AV.unks, AV.unkss, traceC, hr0, hz0, h1, ints_unk, intC]
  rw [e]
  exact hT
 have hzn : (List.replicate r.length [AV.sc (.int .i64 0)]).all AV.norefs = true := by simp [List.all_eq_true, AV.norefs, AV.noref]
 refine PureIs.of (nv := 2) (hid := [4, 11]) func36 rfl (by kernel_rfl) (by simp [ntmps36]) fun _ => ?_
 rw [ntmps36, results36]
 refine EvC.seq (EvC.rg (by simp only [go_sem] <;> rfl) (by simp) ?_)
 apply EvC.seq
 apply EvC.rs
 ·simp only [go_sem, List.length_map, List.length_replicate, decide_true] <;> rfl
 ·simp
  simp only [room_eq, decide_eq_true_eq]; omega
 refine XR.frzD 4 (by simp only [go_sem, List.length_replicate, decide_true, hzn] <;> rfl) ?_
 refine XR.snapA 7 (by simp only [go_sem] <;> rfl) ?_
 refine XR.frz 7 (by simp only [go_sem, List.length_replicate, hzn] <;> rfl) ?_
 refine XR.call rfl rfl (by simp only [go_sem] <;> rfl) (by simp only [go_sem] <;> rfl) (by simp only [go_sem] <;> rfl) (by simp only [go_sem] <;> rfl) hT' ?_
 apply XR.done
 ·simp only [go_sem, Mach.cells] <;> rfl
 ·simp
 refine EvC.ret ⟨.inl rfl, _, (by simp only [go_sem] <;> rfl), ?_, rfl⟩
 simp only [go_sem]
 rfl
end Go.Avl
namespace Go.Avl
open Go Go.Proofs.Try
set_option maxRecDepth 10000
set_option linter.unusedSimpArgs false
def okB (y x : Int × Int) : Bool := !knownE x || (decide (x.1 = -1) == decide (y.1 = -1)) && (decide (x.1 = -1) || decide (y.2 = x.2))
def okE (y x : Int × Int) (to : Nat) : Prop := okB y x = true ∧ (x.1 ≠ -1 → y.1 = (to : Int))
structure FitH (t m : Mach) (h : Nat → Nat) : Prop where
 root : h 0 = 0
 ok : ∀ n i : Nat, n < t.rows.length → (i : Int) < t.ins → okE (eT m (h n) i) (eT t n i) (h (eT t n i).1.toNat)
open Classical in
noncomputable def fitB (t m : Mach) : Bool := decide (∃ h, FitH t m h)
def stN (st : List Nat) (k : Nat) : Nat := (st[k]?).getD 0
structure FitI (t m : Mach) (st : List Nat) (n i : Nat) : Prop where
 len : st.length = t.rows.length
 root : stN st 0 = 0
 lt : ∀ s ∈ st, s < m.rows.length
 ok : ∀ q j : Nat, q < t.rows.length → (j : Int) < t.ins → (q < n ∨ q = n ∧ j < i) → okE (eT m (stN st q) j) (eT t q j) (stN st (eT t q j).1.toNat)
theorem stN_lt {st : List Nat} {k n : Nat} (h : ∀ s ∈ st, s < n) (h0 : 0 < n) : stN st k < n := by
 unfold stN
 cases hk : st[k]? with
 | none => exact h0
 | some s => exact h s (List.mem_of_getElem? hk)
theorem FitI.start {t m : Mach} (hm : 0 < m.rows.length) : FitI t m (List.replicate t.rows.length 0) 0 0 := by
 refine ⟨by simp, ?_, fun s hs => ?_, fun q j _ _ h => by omega⟩
 ·unfold stN
  cases h : (List.replicate t.rows.length 0)[0]? with
  | none => rfl
  | some s => exact List.eq_of_mem_replicate (List.mem_of_getElem? h)
 ·rw [List.eq_of_mem_replicate hs]; exact hm
theorem FitI.next {t m : Mach} {st : List Nat} {n : Nat} (h : FitI t m st n t.ins.toNat) : FitI t m st (n + 1) 0 :=
 ⟨h.len, h.root, h.lt, fun q j h1 h2 h3 => h.ok q j h1 h2 (by omega)⟩
theorem FitI.keep {t m : Mach} {st : List Nat} {n i : Nat} (h : FitI t m st n i) (hk : okE (eT m (stN st n) i) (eT t n i) (stN st (eT t n i).1.toNat)) : FitI t m st n (i + 1) :=
 ⟨h.len, h.root, h.lt, fun q j h1 h2 h3 => by
  by_cases e : q = n ∧ j = i
  ·rw [e.1, e.2]; exact hk
  ·exact h.ok q j h1 h2 (by omega)⟩
theorem FitI.set {t m : Mach} (v : TV t) (tp : TP t) {st : List Nat} {n i : Nat} (h : FitI t m st n i) (hn : n < t.rows.length) (hi : (i : Int) < t.ins) (hx : (eT t n i).1 ≠ -1) {to : Nat} (hto : (eT m (stN st n) i).1 = to) (hlt : to < m.rows.length)
  (hb : okB (eT m (stN st n) i) (eT t n i) = true) : FitI t m (st.set (eT t n i).1.toNat to) n (i + 1) := by
 have he := v.edge hn hi
 obtain ⟨k, hk⟩ : ∃ k : Nat, (eT t n i).1 = k := ⟨(eT t n i).1.toNat, by omega⟩
 rw [hk, Int.toNat_natCast]
 have hkn : n < k ∧ k < t.rows.length := by omega
 have hs : ∀ j, stN (st.set k to) j = if j = k then to else stN st j := fun j => by
  unfold stN
  rw [List.getElem?_set]
  by_cases e : k = j
  ·subst e; rw [if_pos rfl, if_pos rfl, if_pos (by rw [h.len]; exact hkn.2)]; rfl
  ·rw [if_neg e, if_neg (fun h => e h.symm)]
 refine ⟨by rw [List.length_set]; exact h.len, by rw [hs, if_neg (by omega)]; exact h.root, fun s hs => ?_, fun q j h1 h2 h3 => ?_⟩
 ·rcases List.mem_or_eq_of_mem_set hs with h1 | h1
  ·exact h.lt s h1
  ·rw [h1]; exact hlt
 ·rw [hs, if_neg (by omega)]
  by_cases e : q = n ∧ j = i
  ·obtain ⟨rfl, rfl⟩ := e
   rw [hk, Int.toNat_natCast, hs, if_pos rfl]
   exact ⟨hb, fun _ => hto⟩
  ·have := h.ok q j h1 h2 (by omega)
   refine ⟨this.1, fun hne => ?_⟩
   rw [hs, if_neg]
   ·exact this.2 hne
   ·intro hc
    have hq := v.edge h1 h2
    have := tp.uniq q j n i hne (by omega)
    exact e this
theorem FitI.agree {t m : Mach} (tp : TP t) {st : List Nat} {n i : Nat} (h : FitI t m st n i) {f : Nat → Nat} (hf : FitH t m f) : ∀ k, k ≤ n → k < t.rows.length → stN st k = f k := by
 intro k
 induction k using Nat.strongRecOn with
 | _ k ih =>
   intro h1 h2
   by_cases h0 : k = 0
   ·rw [h0, h.root, hf.root]
   ·obtain ⟨q, j, k1, k2, k3⟩ := tp.has k (by omega) h2
    have a1 := (h.ok q j (by omega) k2 (.inl (by omega))).2 (by omega)
    have a2 := (hf.ok q j (by omega) k2).2 (by omega)
    rw [← ih q k1 (by omega) (by omega)] at a2
    rw [k3, Int.toNat_natCast] at a1 a2
    omega
theorem FitI.done {t m : Mach} {st : List Nat} {n : Nat} (h : FitI t m st n 0) (hn : t.rows.length ≤ n) : fitB t m = true := by
 classical
 unfold fitB
 rw [decide_eq_true_eq]
 exact ⟨stN st, h.root, fun q j h1 h2 => h.ok q j h1 h2 (.inl (by omega))⟩
theorem FitI.bad {t m : Mach} (tp : TP t) {st : List Nat} {n i : Nat} (h : FitI t m st n i) (hn : n < t.rows.length) (hi : (i : Int) < t.ins) (hb : okB (eT m (stN st n) i) (eT t n i) = false) : fitB t m = false := by
 classical
 unfold fitB
 rw [decide_eq_false_iff_not]
 rintro ⟨f, hf⟩
 have := (hf.ok n i hn hi).1
 rw [← h.agree tp hf n (Nat.le_refl _) hn, hb] at this
 cases this
theorem Valid.edge {m : Mach} (v : Valid m) {s i : Nat} (hs : s < m.rows.length) (hi : (i : Int) < m.ins) : ∃ A : Row, m.rows[s]? = some A ∧ (A.2.length : Int) = m.ins ∧ A.2[i]? = some (eT m s i) ∧ ((eT m s i = (-1, -1)) ∨ (0 ≤ (eT m s i).1 ∧ (eT m s i).1 < m.rows.length ∧ 0 ≤ (eT m s i).2 ∧ (eT m s i).2 < m.outs)) := by
 obtain ⟨h1, h2⟩ := v.row _ (List.getElem_mem hs)
 have hl : i < (m.rows[s]).2.length := by omega
 have e : eT m s i = (m.rows[s]).2[i] := by simp [eT, hs, hl]
 refine ⟨m.rows[s], List.getElem?_eq_getElem hs, h1, by rw [e]; exact List.getElem?_eq_getElem hl, ?_⟩
 have := h2 _ (List.getElem_mem hl)
 rw [← e] at this
 unfold fitsR at this
 simp only [Bool.or_eq_true, Bool.and_eq_true, decide_eq_true_eq] at this
 rcases this with h | h
 ·exact .inl (Prod.ext h.1 h.2)
 ·exact .inr (by omega)
def fitAns (t : Mach) (b : Bool) (m : Mach) : AV :=
 if checkM m ≠ 0 then .tu [.sc (.bool false), .sc (.int .i64 (checkM m))]
 else if checkT t ≠ 0 then .tu [.sc (.bool false), .sc (.int .i64 (checkT t))]
 else if m.ins ≠ t.ins then .tu [.sc (.bool false), .sc (.int .i64 5)]
 else .tu [.sc (.bool b), .sc (.int .i64 0)]
end Go.Avl
namespace Go.Avl
open Go Go.Proofs.Try
set_option maxRecDepth 10000
set_option linter.unusedSimpArgs false
set_option maxHeartbeats 8000000 in
theorem fits23_is (t m : Mach) (hr : ∀ r ∈ t.rows, r.2.length < 1000000) (hm : ∀ r ∈ m.rows, r.2.length < 1000000) : PureIs prog 23 [.ag m.cells, .ag t.cells] (fitAns t (fitB t m) m) := by
 have hC := check_is m hm
 have hT := checkT_is t hr
 unfold fitAns
 generalize hce : checkM m = ce at hC
 generalize hte : checkT t = te at hT
 refine PureIs.of (nv := 14) (hid := [4, 5, 6, 7, 8, 9, 10, 11, 12, 13, 17, 22, 28, 32, 34, 35, 36, 37, 41, 42, 43, 44, 59, 63, 87]) func23 rfl (by kernel_rfl) (by simp [ntmps23]) fun _ => ?_
 rw [ntmps23, results23]
 refine EvC.seq (EvC.rg (by simp only [go_sem, Mach.cells] <;> rfl) (by simp) ?_)
 refine EvC.frzB 0 (by simp only [go_sem] <;> rfl) ?_
 refine EvC.frzB 1 (by simp only [go_sem] <;> rfl) ?_
 rw [Mach.cells] at hC hT
 refine EvC.seq ?_
 apply EvC.seq
 apply EvC.tr
 ·apply Tr.run
  ·simp only [go_sem] <;> rfl
  ·simp
  apply Tr.cons
  ·exact .call rfl rfl (by simp only [go_sem] <;> rfl) (by simp only [go_sem] <;> rfl) (by simp only [go_sem] <;> rfl) (by simp only [go_sem] <;> rfl) (by simp only [go_sem] <;> rfl) (hC)
  apply Tr.done
  ·simp only [go_sem] <;> rfl
  ·simp
 refine EvC.seq (EvC.rg (by simp only [go_sem] <;> rfl) (by simp) ?_)
 by_cases he : ce = 0
 rotate_left
 ·rw [if_pos he]
  refine EvC.cond_true (by simp only [go_sem, decide_eq_false he] <;> rfl) ?_
  refine EvC.seq (EvC.rg (by simp only [go_sem] <;> rfl) (by simp) ?_)
  refine EvC.ret ⟨.inl rfl, _, (by simp only [go_sem] <;> rfl), ?_, rfl⟩
  simp only [go_sem]
 rw [if_neg (fun h => h he)]
 subst he
 refine EvC.cond_false (by simp only [go_sem] <;> rfl) ?_
 refine EvC.skip ?_
 refine EvC.seq ?_
 apply EvC.seq
 apply EvC.tr
 ·apply Tr.run
  ·simp only [go_sem] <;> rfl
  ·simp
  apply Tr.cons
  ·exact .call rfl rfl (by simp only [go_sem] <;> rfl) (by simp only [go_sem] <;> rfl) (by simp only [go_sem] <;> rfl) (by simp only [go_sem] <;> rfl) (by simp only [go_sem] <;> rfl) (hT)
  apply Tr.done
  ·simp only [go_sem] <;> rfl
  ·simp
 refine EvC.seq (EvC.rg (by simp only [go_sem] <;> rfl) (by simp) ?_)
 by_cases he : te = 0
 rotate_left
 ·rw [if_pos he]
  refine EvC.cond_true (by simp only [go_sem, decide_eq_false he] <;> rfl) ?_
  refine EvC.seq (EvC.rg (by simp only [go_sem] <;> rfl) (by simp) ?_)
  refine EvC.ret ⟨.inl rfl, _, (by simp only [go_sem] <;> rfl), ?_, rfl⟩
  simp only [go_sem]
 rw [if_neg (fun h => h he)]
 subst he
 refine EvC.cond_false (by simp only [go_sem] <;> rfl) ?_
 refine EvC.skip ?_
 refine EvC.seq ?_
 refine EvC.seq (EvC.rg (by simp only [go_sem] <;> rfl) (by simp) ?_)
 by_cases he : m.ins = t.ins
 rotate_left
 ·rw [if_pos he]
  refine EvC.cond_true (by simp only [go_sem, decide_eq_false he] <;> rfl) ?_
  refine EvC.seq (EvC.rg (by simp only [go_sem] <;> rfl) (by simp) ?_)
  refine EvC.ret ⟨.inl rfl, _, (by simp only [go_sem] <;> rfl), ?_, rfl⟩
  simp only [go_sem]
 rw [if_neg (fun h => h he)]
 refine EvC.cond_false (by simp only [go_sem, decide_eq_true he] <;> rfl) ?_
 refine EvC.skip ?_
 have v := TV.of hte
 have tp := TP.of hte
 have vm := Valid.of hce
 have hrw := v.rows
 have hin := v.ins
 have hmr := vm.rows
 obtain ⟨N, hNd⟩ : ∃ N, N = t.rows.length := ⟨_, rfl⟩
 have hNi : ((N : Int)).toNat = N := Int.toNat_natCast N
 have hr0 : room N 8 = true := by simp only [room_eq, decide_eq_true_eq]; omega
 refine EvC.seq (EvC.rg (by simp only [go_sem, hNd.symm, hNi, List.length_map] <;> rfl) (by simp; exact hr0) ?_)
 refine EvC.seq ?_
 refine EvC.seq (EvC.rg (by simp only [go_sem, hNd.symm, List.length_map] <;> rfl) (by simp) ?_)
 refine EvC.block ?_
 refine EvC.loopS (σ := Nat × List Nat) (fun g => ⟨[(2, .ia m.cells), (8, .tv 0 N 0 N (.val N)), (34, .sl t.nl (t.rows.map rowC) .unk), (35, .sc (.int .i64 N)), (36, .sc (.int .i64 g.1))], [], [(0, .arr 1 (g.2.map natC) false)], 1⟩) (fun g => N - g.1)
  (fun g => g.1 ≤ N ∧ FitI t m g.2 g.1 0) [2, 8, 34, 35, 36] 1 ?_ ?_
 ·refine ⟨[(22, 0)], (0, List.replicate N 0), rfl, ?_, Nat.zero_le _, by rw [hNd]; exact FitI.start (by omega)⟩
  have hnz : (List.replicate N [AV.sc (.int .i64 0)]).all AV.norefs = true := by simp [List.all_eq_true, AV.norefs, AV.noref]
  have hz : (List.replicate N 0).map natC = List.replicate N [AV.sc (.int .i64 0)] := by rw [List.map_replicate]; rfl
  simp only
  rw [hz]
  simp only [go_sem, Mach.cells, Int.natCast_zero, hnz] <;> rfl
 rintro ⟨n, st⟩ ⟨h1, h2⟩
 simp only at h1 h2 ⊢
 have hnin : (n : Int).toNat = n := Int.toNat_natCast n
 have hNi : ((N : Int)).toNat = N := Int.toNat_natCast N
 refine EvC.seq (EvC.rg (by simp only [go_sem] <;> rfl) (by simp) ?_)
 refine EvC.seq ?_
 refine EvC.cond (by simp only [go_sem] <;> rfl) (fun hc => ?_) (fun hc => ?_)
 rotate_left
 ·
  have : ¬ n < N := by simpa using hc
  rw [h2.done (by omega)]
  refine EvC.exit ?_
  refine EvC.seq (EvC.rg (by simp only [go_sem] <;> rfl) (by simp) ?_)
  refine EvC.ret ⟨.inl rfl, _, (by simp only [go_sem] <;> rfl), ?_, rfl⟩
  simp only [go_sem]
 have hn : n < N := by simpa using hc
 clear hc
 refine EvC.skip ?_
 refine EvC.seq ?_
 refine EvC.block ?_
 obtain ⟨A, hA⟩ : ∃ A, t.rows[n]? = some A := ⟨_, List.getElem?_eq_getElem (by omega)⟩
 have hAl := (v.row n A hA).1
 refine EvC.seq (EvC.rg (by simp only [go_sem, hA, hnin, rowC, List.length_map] <;> rfl) (by simp) ?_)
 refine EvC.seq (EvC.rg (by simp only [go_sem, List.length_map] <;> rfl) (by simp) ?_)
 refine EvC.block ?_
 refine EvC.loopS (σ := Nat × List Nat) (fun g => ⟨[(2, .ia m.cells), (8, .tv 0 N 0 N (.val N)), (9, .sc (.int .i64 n)), (34, .sl t.nl (t.rows.map rowC) .unk), (35, .sc (.int .i64 N)), (36, .sc (.int .i64 n)), (41, .sl A.1 (A.2.map edgeC) .unk), (42, .sc (.int .i64 A.2.length)), (43, .sc (.int .i64 g.1))], [], [(0, .arr 1 (g.2.map natC) false)], 1⟩) (fun g => t.ins.toNat - g.1)
  (fun g => (g.1 : Int) ≤ t.ins ∧ FitI t m g.2 n g.1) [2, 8, 9, 34, 35, 36, 41, 42, 43] 1 ?_ ?_
 ·exact ⟨[(0, 0)], (0, st), rfl, (by simp only [go_sem, Mach.cells, Int.natCast_zero, norefs_natC] <;> rfl), by simp only; omega, h2⟩
 clear h2 st
 rintro ⟨i, st⟩ ⟨h3, h2⟩
 simp only at h3 h2 ⊢
 have hiin : (i : Int).toNat = i := Int.toNat_natCast i
 refine EvC.seq (EvC.rg (by simp only [go_sem] <;> rfl) (by simp) ?_)
 refine EvC.seq ?_
 refine EvC.cond (by simp only [go_sem] <;> rfl) (fun hc => ?_) (fun hc => ?_)
 rotate_left
 ·
  have : ¬ i < A.2.length := by simpa using hc
  obtain rfl : i = t.ins.toNat := by omega
  refine EvC.exit ?_
  refine EvC.rg (by simp only [go_sem] <;> rfl) (by exact inI64_of (by omega) (by omega)) ?_
  exact ⟨[(0, 0)], (n + 1, st), rfl, (by simp only [go_sem, Mach.cells, Int.natCast_add, Int.natCast_one, norefs_natC] <;> rfl), ⟨hn, h2.next⟩, by simp only; omega⟩
 have hi : (i : Int) < t.ins := by have : i < A.2.length := by simpa using hc
                                   omega
 clear hc
 refine EvC.skip ?_
 refine EvC.seq ?_
 refine EvC.block ?_
 have hiA : i < A.2.length := by omega
 have hxA : A.2[i]? = some (eT t n i) := by simp [eT, hA, hiA]
 have eA := v.edge (show n < t.rows.length by omega) hi
 have hsl := stN_lt (k := n) h2.lt (by omega)
 have hsg : st[n]? = some (stN st n) := by
  unfold stN
  rw [List.getElem?_eq_getElem (by rw [h2.len]; omega)]; rfl
 have hsin : ((stN st n : Nat) : Int).toNat = stN st n := Int.toNat_natCast _
 obtain ⟨B, hB, hBl, hxB, eB⟩ := vm.edge hsl (i := i) (by omega)
 have hbad := fun h => h2.bad tp (i := i) (by omega) hi h
 have hkeep := fun h => h2.keep (i := i) h
 have hset := fun to h1 h3 h4 h5 => h2.set v tp (i := i) (by omega) hi h1 (to := to) h3 h4 h5
 generalize eT t n i = x at hxA eA hbad hkeep hset
 generalize eT m (stN st n) i = y at hxB eB hbad hkeep hset
 obtain ⟨x1, x2⟩ := x
 obtain ⟨y1, y2⟩ := y
 simp only [Prod.mk.injEq] at eA eB
 refine EvC.seq (EvC.rg (by simp only [go_sem, hxA, edgeC, hiin, List.length_map] <;> rfl) (by simp; try omega) ?_)
 refine EvC.frzB 5 (by simp only [go_sem, norefs_natC] <;> rfl) ?_
 have hstl : (st.map natC).length = N := by rw [List.length_map, h2.len, hNd]
 have hsg2 : (st.map natC)[n]? = some (natC (stN st n)) := by rw [List.getElem?_map, hsg]; rfl
 apply EvC.seq
 apply EvC.drd mixed
 ·simp only [go_sem, Mach.cells, hsg, hsg2, hnin, natC, hsin, hstl, hB, rowC, hxB, edgeC, hiin, List.length_map] <;> rfl
 ·simp; try omega
 ·kernel_rfl
 refine EvC.frzB 19 (by simp only [go_sem, norefs_natC] <;> rfl) ?_
 refine EvC.block ?_
 have hK := known55_is x1 x2
 apply EvC.seq
 apply EvC.tr
 ·apply Tr.run
  ·simp only [go_sem] <;> rfl
  ·simp
  apply Tr.cons
  ·exact .call rfl rfl (by simp only [go_sem] <;> rfl) (by simp only [go_sem] <;> rfl) (by simp only [go_sem] <;> rfl) (by simp only [go_sem] <;> rfl) (by simp only [go_sem] <;> rfl) (hK)
  apply Tr.done
  ·simp only [go_sem] <;> rfl
  ·simp
 cases hkn : knownE (x1, x2) with
 | false =>
   have hx1 : x1 = -1 := by
    by_cases h : x1 = -1
    ·exact h
    ·rw [knownE_to (a := (x1, x2)) h] at hkn; cases hkn
   refine EvC.cond_true (by simp only [go_sem, hkn] <;> rfl) ?_
   refine EvC.skip ?_
   refine EvC.rg (by simp only [go_sem] <;> rfl) (by exact inI64_of (by omega) (by omega)) ?_
   exact ⟨[(0, 0)], (i + 1, st), rfl, (by simp only [go_sem, Mach.cells, Int.natCast_add, Int.natCast_one, norefs_natC] <;> rfl), ⟨by simp only; omega, hkeep ⟨by unfold okB; rw [hkn]; rfl, fun h => absurd h (by simp [hx1])⟩⟩, by simp only; omega⟩
 | true =>
 refine EvC.cond_false (by simp only [go_sem, hkn] <;> rfl) ?_
 by_cases hx1 : x1 = -1
 ·have d1 := decide_eq_true hx1
  by_cases hy1 : y1 = -1
  ·have d2 := decide_eq_true hy1
   refine EvC.seq ?_
   apply EvC.seq
   apply EvC.trd
   ·simp only [go_sem, d1, d2] <;> rfl
   ·simp
   refine EvC.cond_false (by simp only [go_sem] <;> rfl) ?_
   apply EvC.trd
   ·simp only [go_sem, d1, d2] <;> rfl
   ·simp
   refine EvC.cond_false (by simp only [go_sem] <;> rfl) ?_
   refine EvC.seq (EvC.rg (by simp only [go_sem, d1, d2] <;> rfl) (by simp) ?_)
   refine EvC.cond_false (by simp only [go_sem] <;> rfl) ?_
   refine EvC.skip ?_
   refine EvC.rg (by simp only [go_sem] <;> rfl) (by exact inI64_of (by omega) (by omega)) ?_
   exact ⟨[(0, 0)], (i + 1, st), rfl, (by simp only [go_sem, Mach.cells, Int.natCast_add, Int.natCast_one, norefs_natC] <;> rfl), ⟨by simp only; omega, hkeep ⟨by unfold okB; simp [hx1, hy1], fun h => absurd h (by simp [hx1])⟩⟩, by simp only; omega⟩
  ·have d2 := decide_eq_false hy1
   rw [hbad (by unfold okB; rw [hkn]; simp [ hx1, hy1])]
   refine EvC.seq ?_
   apply EvC.seq
   apply EvC.trd
   ·simp only [go_sem, d1, d2] <;> rfl
   ·simp
   refine EvC.cond_true (by simp only [go_sem] <;> rfl) ?_
   refine EvC.skip ?_
   refine EvC.cond_true (by simp only [go_sem] <;> rfl) ?_
   refine EvC.seq (EvC.rg (by simp only [go_sem] <;> rfl) (by simp) ?_)
   refine EvC.ret ⟨.inl rfl, _, (by simp only [go_sem] <;> rfl), ?_, rfl⟩
   simp only [go_sem]
 have d1 := decide_eq_false hx1
 have hT : ∀ b : Bool, ((if decide (y1 = -1) = true then true else !decide (y2 = x2)) = b) → True := fun _ _ => trivial
 by_cases hy1 : y1 = -1
 ·have d2 := decide_eq_true hy1
  rw [hbad (by unfold okB; rw [hkn]; simp [ hx1, hy1])]
  refine EvC.seq ?_
  apply EvC.seq
  apply EvC.trd
  ·simp only [go_sem, d1, d2] <;> rfl
  ·simp
  refine EvC.cond_false (by simp only [go_sem] <;> rfl) ?_
  apply EvC.trd
  ·simp only [go_sem, d1, d2] <;> rfl
  ·simp
  refine EvC.cond_true (by simp only [go_sem] <;> rfl) ?_
  refine EvC.seq (EvC.rg (by simp only [go_sem] <;> rfl) (by simp) ?_)
  refine EvC.ret ⟨.inl rfl, _, (by simp only [go_sem] <;> rfl), ?_, rfl⟩
  simp only [go_sem]
 have d2 := decide_eq_false hy1
 by_cases hy2 : y2 = x2
 rotate_left
 ·have d3 := decide_eq_false hy2
  rw [hbad (by unfold okB; rw [hkn]; simp [ hx1, hy1, hy2])]
  refine EvC.seq ?_
  apply EvC.seq
  apply EvC.trd
  ·simp only [go_sem, d1, d2] <;> rfl
  ·simp
  refine EvC.cond_false (by simp only [go_sem] <;> rfl) ?_
  apply EvC.trd
  ·simp only [go_sem, d1, d2, d3] <;> rfl
  ·simp
  refine EvC.cond_true (by simp only [go_sem] <;> rfl) ?_
  refine EvC.seq (EvC.rg (by simp only [go_sem] <;> rfl) (by simp) ?_)
  refine EvC.ret ⟨.inl rfl, _, (by simp only [go_sem] <;> rfl), ?_, rfl⟩
  simp only [go_sem]
 have d3 := decide_eq_true hy2
 obtain ⟨q, rfl⟩ : ∃ q : Nat, x1 = q := ⟨x1.toNat, by omega⟩
 obtain ⟨w, rfl⟩ : ∃ w : Nat, y1 = w := ⟨y1.toNat, by omega⟩
 have hqin : ((q : Nat) : Int).toNat = q := Int.toNat_natCast _
 have hnew := hset w hx1 rfl (by omega) (by unfold okB; rw [hkn]; simp [ hx1, hy1, hy2])
 simp only [hqin] at hnew
 refine EvC.seq ?_
 apply EvC.seq
 apply EvC.trd
 ·simp only [go_sem, d1, d2] <;> rfl
 ·simp
 refine EvC.cond_false (by simp only [go_sem] <;> rfl) ?_
 apply EvC.trd
 ·simp only [go_sem, d1, d2, d3] <;> rfl
 ·simp
 refine EvC.cond_false (by simp only [go_sem] <;> rfl) ?_
 refine EvC.seq (EvC.rg (by simp only [go_sem, d1, d2] <;> rfl) (by simp) ?_)
 refine EvC.cond_true (by simp only [go_sem] <;> rfl) ?_
 have hsq : st[q]? = some (stN st q) := by
  unfold stN
  rw [List.getElem?_eq_getElem (by rw [h2.len]; omega)]; rfl
 have hm3 : (st.map natC).set q [.sc (.int .i64 w)] = (st.set q w).map natC := by rw [List.map_set]; rfl
 refine EvC.rg (by simp only [go_sem, hqin, hsq, natC, List.drop_succ_cons, List.drop_zero, hm3] <;> rfl) (by simp; have := h2.len; omega) ?_
 refine EvC.rg (by simp only [go_sem] <;> rfl) (by exact inI64_of (by omega) (by omega)) ?_
 exact ⟨[(0, 0)], (i + 1, st.set q w), rfl, (by simp only [go_sem, Mach.cells, Int.natCast_add, Int.natCast_one, norefs_natC] <;> rfl), ⟨by simp only; omega, hnew⟩, by simp only; omega⟩
end Go.Avl
namespace Go.Avl
open Go Go.Proofs.Try
set_option maxRecDepth 10000
set_option linter.unusedSimpArgs false
def parT (t : Mach) (n : Nat) : Nat × Nat := (((List.range n).flatMap fun p => (List.range t.ins.toNat).filterMap fun i => if (eT t p i).1 = (n : Int) then some (p, i) else none).head?).getD (0, 0)
theorem parT_mem {t : Mach} {n p i : Nat} : (p, i) ∈ ((List.range n).flatMap fun p => (List.range t.ins.toNat).filterMap fun i => if (eT t p i).1 = (n : Int) then some (p, i) else none) ↔ p < n ∧ (i : Int) < t.ins ∧ (eT t p i).1 = n := by
 rw [List.mem_flatMap]
 constructor
 ·rintro ⟨q, hq, h⟩
  obtain ⟨j, hj, h⟩ := List.mem_filterMap.1 h
  split at h
  ·rename_i he
   cases h
   exact ⟨List.mem_range.1 hq, by have := List.mem_range.1 hj; omega, he⟩
  ·cases h
 ·rintro ⟨h1, h2, h3⟩
  exact ⟨p, List.mem_range.2 h1, List.mem_filterMap.2 ⟨i, List.mem_range.2 (by omega), if_pos h3⟩⟩
theorem parT_eq {t : Mach} (tp : TP t) {n p i : Nat} (h1 : p < n) (h2 : (i : Int) < t.ins) (h3 : (eT t p i).1 = (n : Int)) : parT t n = (p, i) := by
 unfold parT
 have hm := parT_mem.2 ⟨h1, h2, h3⟩
 cases hl : ((List.range n).flatMap fun p => (List.range t.ins.toNat).filterMap fun i => if (eT t p i).1 = (n : Int) then some (p, i) else none) with
 | nil => rw [hl] at hm; cases hm
 | cons x l =>
   obtain ⟨q, j⟩ := x
   have hx : (q, j) ∈ ((List.range n).flatMap fun p => (List.range t.ins.toNat).filterMap fun i => if (eT t p i).1 = (n : Int) then some (p, i) else none) := by rw [hl]; simp
   obtain ⟨k1, k2, k3⟩ := parT_mem.1 hx
   have := tp.uniq p i q j (by omega) (by omega)
   simp [this.1, this.2]
theorem parT_zero (t : Mach) : parT t 0 = (0, 0) := rfl
theorem parT_lt {t : Mach} (v : TV t) (tp : TP t) {n : Nat} (h1 : 1 ≤ n) (h2 : n < t.rows.length) : (parT t n).1 < n ∧ ((parT t n).2 : Int) < t.ins := by
 obtain ⟨p, i, k1, k2, k3⟩ := tp.has n h1 h2
 rw [parT_eq tp k1 k2 k3]
 exact ⟨k1, k2⟩
theorem parT_in {t : Mach} (v : TV t) (tp : TP t) {n : Nat} (h2 : n < t.rows.length) : (parT t n).1 ≤ n ∧ ((parT t n).2 : Int) < t.ins := by
 have := v.ins
 by_cases h : n = 0
 ·subst h; rw [parT_zero]; exact ⟨Nat.le_refl _, by simp only; omega⟩
 ·have := parT_lt v tp (by omega) h2
  omega
def clashN (t : Mach) (m n i : Nat) : Bool := clashE (eT t m i) (eT t n i)
def wrongN (t : Mach) (c : List Nat) (k m : Nat) : Bool := decide (stN c m = stN c (parT t c.length).1) && decide ((eT t m (parT t c.length).2).1 ≠ -1) && decide ((eT t m (parT t c.length).2).1 < (c.length : Int)) && !decide (stN c (eT t m (parT t c.length).2).1.toNat = k)
def possM (t : Mach) (c : List Nat) (k m : Nat) : Bool := !(decide (stN c m = k) && (List.range t.ins.toNat).any (clashN t m c.length)) && !wrongN t c k m
def possB (t : Mach) (c : List Nat) (k : Nat) : Bool := (List.range c.length).all (possM t c k)
theorem any_false_of {p : Nat → Bool} {n : Nat} (h : ∀ i, i < n → p i = false) : (List.range n).any p = false := by
 rw [List.any_eq_false]
 intro i hi
 rw [h i (List.mem_range.1 hi)]; simp
theorem possB_true {t : Mach} {c : List Nat} {k : Nat} (h : ∀ m, m < c.length → possM t c k m = true) : possB t c k = true := by
 unfold possB
 rw [List.all_eq_true]
 exact fun m hm => h m (List.mem_range.1 hm)
theorem possB_false {t : Mach} {c : List Nat} {k m : Nat} (hm : m < c.length) (h : possM t c k m = false) : possB t c k = false := by
 unfold possB
 rw [List.all_eq_false]
 exact ⟨m, List.mem_range.2 hm, by rw [h]; simp⟩
theorem possM_clash {t : Mach} {c : List Nat} {k m i : Nat} (h1 : stN c m = k) (hi : (i : Int) < t.ins) (h2 : clashN t m c.length i = true) : possM t c k m = false := by
 unfold possM
 have : (List.range t.ins.toNat).any (clashN t m c.length) = true := List.any_eq_true.2 ⟨i, List.mem_range.2 (by omega), h2⟩
 rw [this, decide_eq_true h1]; rfl
theorem possM_noclash {t : Mach} {c : List Nat} {k m : Nat} (h : stN c m = k → ∀ i : Nat, (i : Int) < t.ins → clashN t m c.length i = false) : possM t c k m = !wrongN t c k m := by
 unfold possM
 by_cases hk : stN c m = k
 ·rw [any_false_of (fun i hi => h hk i (by omega)), Bool.and_false]; rfl
 ·rw [decide_eq_false hk]; rfl
theorem stN_get {c : List Nat} {m : Nat} (h : m < c.length) : c[m]? = some (stN c m) := by
 unfold stN
 rw [List.getElem?_eq_getElem h]; rfl
end Go.Avl
namespace Go.Avl
open Go Go.Proofs.Try
set_option maxRecDepth 10000
set_option linter.unusedSimpArgs false
def frT (t : Mach) : List (Nat × Nat) := (List.range t.rows.length).map (parT t)
def coO (t : Mach) (cv : AV) (fuel : Int) (sp : Bool) : RObj :=
 .cells [.sc (.int .i64 t.ins), .sc (.int .i64 t.outs), .sl t.nl (t.rows.map rowC) .unk, .sl false ((frT t).map prC) .full, cv, .sc (.int .i64 fuel), .sc (.bool sp)]
def coM (t : Mach) (cv : AV) (E : List Nat) (fuel : Int) (sp : Bool) : Mem := [(0, coO t cv fuel sp), (1, .arr 1 (E.map natC) false)]
def ColOk (cv : AV) (E c : List Nat) : Prop :=
 (c = [] ∧ E = [] ∧ cv = .tl 1 0 true) ∨ (cv = .tv 1 E.length 0 c.length .rest ∧ E.take c.length = c ∧ E ≠ [] ∧ c.length ≤ E.length)
set_option maxHeartbeats 8000000 in
theorem possible77_body {t : Mach} (v : TV t) (tp : TP t) {c E : List Nat} {cv : AV} (hc : ColOk cv E c) (hn : c.length < t.rows.length) (k : Nat) (fuel : Int) (sp : Bool) {R : AV → Mem → Nat → Prop}
  (hR : R (.sc (.bool (possB t c k))) (coM t cv E fuel sp) 3) : BodyIs prog 77 [.rf 0 0, .sc (.int .i64 k)] (coM t cv E fuel sp) 3 R := by
 have hrw := v.rows
 have hin := v.ins
 refine BodyIs.of (nv := 12) (hid := [4, 5, 6, 7, 8, 9, 10, 11, 27, 28, 29, 30, 36, 44, 45, 46, 47, 63, 74, 105]) func77 rfl (by kernel_rfl) (by simp [ntmps77]) fun h0 => ?_
 rw [ntmps77, results77]
 unfold coM coO at *
 obtain ⟨hp1, hp2⟩ := parT_in v tp hn
 have hwr : ∀ m, wrongN t c k m = (decide (stN c m = stN c (parT t c.length).1) && decide ((eT t m (parT t c.length).2).1 ≠ -1) && decide ((eT t m (parT t c.length).2).1 < (c.length : Int)) && !decide (stN c (eT t m (parT t c.length).2).1.toNat = k)) := fun _ => rfl
 have hfr : (frT t)[c.length]? = some (parT t c.length) := by unfold frT; rw [List.getElem?_map, List.getElem?_range hn]; rfl
 have hfl : ((frT t).map prC).length = t.rows.length := by simp [frT]
 rcases hc with ⟨rfl, rfl, rfl⟩ | ⟨rfl, hE1, hE2, hE3⟩
 ·rw [show possB t [] k = true from rfl] at hR
  rw [show ([] : List Nat).length = 0 from rfl, parT_zero] at hfr
  refine EvC.seq (EvC.rg (by simp only [go_sem] <;> rfl) (by simp) ?_)
  refine EvC.seq (EvC.rg (by simp only [go_sem] <;> rfl) (by simp) ?_)
  refine EvC.seq (EvC.rg (by simp only [go_sem, hfr, hfl, prC, Int.natCast_zero] <;> rfl) (by simp [hfl]) ?_)
  refine EvC.seq ?_
  refine EvC.seq (EvC.rg (by simp only [go_sem] <;> rfl) (by simp) ?_)
  refine EvC.block ?_
  refine EvC.loopS (σ := Unit) (fun _ => ⟨[(0, .rf 0 0), (27, .tl 1 0 true), (28, .sc (.int .i64 0)), (29, .sc (.int .i64 0))], [], [(0, .cells [.sc (.int .i64 t.ins), .sc (.int .i64 t.outs), .sl t.nl (t.rows.map rowC) .unk, .sl false ((frT t).map prC) .full, .tl 1 0 true, .sc (.int .i64 fuel), .sc (.bool sp)]), (1, .arr 1 [] false)], 3⟩) (fun _ => 0) (fun _ => True) [0, 27, 28, 29] 3 ?_ ?_
  ·exact ⟨[(0, 0), (1, 1)], (), rfl, (by simp only [go_sem] <;> rfl), trivial⟩
  intro _ _
  refine EvC.seq (EvC.rg (by simp only [go_sem] <;> rfl) (by simp) ?_)
  refine EvC.seq ?_
  refine EvC.cond_false (by simp only [go_sem] <;> rfl) ?_
  refine EvC.exit ?_
  refine EvC.seq (EvC.rg (by simp only [go_sem] <;> rfl) (by simp) ?_)
  refine EvC.gcE (st2 := ⟨[(4, .sc (.bool true))], [], [(0, .cells [.sc (.int .i64 t.ins), .sc (.int .i64 t.outs), .sl t.nl (t.rows.map rowC) .unk, .sl false ((frT t).map prC) .full, .tl 1 0 true, .sc (.int .i64 fuel), .sc (.bool sp)]), (1, .arr 1 [] false)], 3⟩) [4] [(0, 0), (1, 1)] 3 rfl (by simp only [go_sem] <;> rfl) ?_
  refine EvC.ret ⟨.inl rfl, _, (by simp only [go_sem] <;> rfl), ?_⟩
  exact hR
 obtain ⟨n, hnd⟩ : ∃ n, n = c.length := ⟨_, rfl⟩
 have hget : ∀ q, q < n → E[q]? = some (stN c q) := fun q hq => by
  have e : (E.take c.length)[q]? = E[q]? := List.getElem?_take_of_lt (by omega)
  rw [hE1] at e
  rw [← e]
  exact stN_get (by omega)
 rw [← hnd] at hn hp1 hp2 hfr hE3 hR ⊢
 generalize hpj : parT t n = pj at hp1 hp2 hfr
 have hwr : ∀ m, wrongN t c k m = (decide (stN c m = stN c pj.1) && decide ((eT t m pj.2).1 ≠ -1) && decide ((eT t m pj.2).1 < (n : Int)) && !decide (stN c (eT t m pj.2).1.toNat = k)) := fun m => by rw [hwr, ← hnd, hpj]
 have hp0 : n ≠ 0 → pj.1 < n := fun h => by rw [← hpj]; exact (parT_lt v tp (by omega) hn).1
 obtain ⟨p, j⟩ := pj
 simp only at hp1 hp2 hwr hp0
 have hpin : (p : Int).toNat = p := Int.toNat_natCast p
 have hjin : (j : Int).toNat = j := Int.toNat_natCast j
 have hnin : (n : Int).toNat = n := Int.toNat_natCast n
 have hElen : ((E.map natC).take n).length = n := by simp; omega
 refine EvC.seq (EvC.rg (by simp only [go_sem] <;> rfl) (by simp) ?_)
 refine EvC.seq (EvC.rg (by simp only [go_sem, hElen] <;> rfl) (by simp) ?_)
 refine EvC.seq (EvC.rg (by simp only [go_sem, hfr, hfl, hnin, prC] <;> rfl) (by simp [hfl]; try omega) ?_)
 refine EvC.frzB 17 (by simp only [go_sem, norefs_natC] <;> rfl) ?_
 refine EvC.seq ?_
 refine EvC.seq (EvC.rg (by simp only [go_sem, hElen] <;> rfl) (by simp) ?_)
 refine EvC.block ?_
 refine EvC.loopS (σ := Nat) (fun m => ⟨[(0, .rf 0 0), (1, .sc (.int .i64 k)), (5, .sc (.int .i64 n)), (6, .ia [.sc (.int .i64 p), .sc (.int .i64 j)]), (27, .tv 1 E.length 0 n .rest), (28, .sc (.int .i64 n)), (29, .sc (.int .i64 m))], [], [(0, .cells [.sc (.int .i64 t.ins), .sc (.int .i64 t.outs), .sl t.nl (t.rows.map rowC) .unk, .sl false ((frT t).map prC) .full, .tv 1 E.length 0 n .rest, .sc (.int .i64 fuel), .sc (.bool sp)]), (1, .arr 1 (E.map natC) false)], 3⟩) (fun m => n - m) (fun m => m ≤ n ∧ ∀ m', m' < m → possM t c k m' = true) [0, 1, 5, 6, 27, 28, 29] 3 ?_ ?_
 ·exact ⟨[(0, 0), (1, 1)], 0, rfl, (by simp only [go_sem, norefs_natC, Int.natCast_zero] <;> rfl), Nat.zero_le _, fun _ h => absurd h (Nat.not_lt_zero _)⟩
 rintro m ⟨h1, h2⟩
 have hmin : (m : Int).toNat = m := Int.toNat_natCast m
 refine EvC.seq (EvC.rg (by simp only [go_sem] <;> rfl) (by simp) ?_)
 refine EvC.seq ?_
 refine EvC.cond (by simp only [go_sem] <;> rfl) (fun hc => ?_) (fun hc => ?_)
 rotate_left
 ·
  have hm : ¬ m < n := by simpa using hc
  rw [possB_true fun m' hm' => h2 m' (by omega)] at hR
  refine EvC.exit ?_
  refine EvC.seq (EvC.rg (by simp only [go_sem] <;> rfl) (by simp) ?_)
  refine EvC.gcE (st2 := ⟨[(4, .sc (.bool true))], [], [(0, .cells [.sc (.int .i64 t.ins), .sc (.int .i64 t.outs), .sl t.nl (t.rows.map rowC) .unk, .sl false ((frT t).map prC) .full, .tv 1 E.length 0 n .rest, .sc (.int .i64 fuel), .sc (.bool sp)]), (1, .arr 1 (E.map natC) false)], 3⟩) [4] [(0, 0), (1, 1)] 3 rfl (by simp only [go_sem, norefs_natC] <;> rfl) ?_
  refine EvC.ret ⟨.inl rfl, _, (by simp only [go_sem] <;> rfl), ?_⟩
  exact hR
 have hm : m < n := by simpa using hc
 clear hc
 have hmE := hget m hm
 have hp0 := hp0 (by omega)
 have hnext : possM t c k m = true → ∀ m', m' < m + 1 → possM t c k m' = true := fun h m' hm' => by
  by_cases e : m' = m
  ·rw [e]; exact h
  ·exact h2 m' (by omega)
 have hkd : decide ((stN c m : Int) = (k : Int)) = decide (stN c m = k) := decide_eq_decide.2 (by omega)
 refine EvC.skip ?_
 refine EvC.seq ?_
 refine EvC.block ?_
 refine EvC.seq (EvC.rg (by simp only [go_sem, hmE, hmin, natC, hElen] <;> rfl) (by simp; try omega) ?_)
 refine EvC.seq ?_
 refine EvC.seq (EvC.rg (by simp only [go_sem] <;> rfl) (by simp) ?_)
 by_cases hk : stN c m = k
 rotate_left
 ·rw [decide_eq_false hk] at hkd
  refine EvC.cond_false (by simp only [go_sem, hkd] <;> rfl) ?_
  refine EvC.skip ?_
  have hnc : stN c m = k → ∀ i : Nat, (i : Int) < t.ins → clashN t m c.length i = false := fun h => absurd h hk
  have hpm := possM_noclash (t := t) (c := c) (k := k) (m := m) hnc
  rw [hwr] at hpm
  obtain ⟨A, hA, hAl, hAi⟩ := row_get v (n := m) (i := j) (by omega) hp2
  have eA := v.edge (n := m) (i := j) (by omega) hp2
  generalize eT t m j = e at hAi hpm eA
  obtain ⟨e1, e2⟩ := e
  simp only at hpm eA
  have hgp := stN_get (c := c) (m := p) (by omega)
  have hgpE : E[p]? = some (stN c p) := hget p (by omega)
  have hgm2 : decide ((stN c m : Int) = (stN c p : Int)) = decide (stN c m = stN c p) := decide_eq_decide.2 (by omega)
  apply EvC.seq
  apply EvC.drd mixed
  ·simp only [go_sem, hpin, hgpE, natC, hgm2, hElen] <;> rfl
  ·simp; try omega
  ·kernel_rfl
  by_cases g1 : stN c m = stN c p
  rotate_left
  ·have g1 := decide_eq_false g1
   rw [g1] at hpm hgm2
   refine EvC.cond_false (by simp only [go_sem, g1] <;> rfl) ?_
   refine EvC.skip ?_
   refine EvC.rg (by simp only [go_sem] <;> rfl) (by exact inI64_of (by omega) (by omega)) ?_
   exact ⟨[(0, 0), (1, 1)], m + 1, rfl, (by simp only [go_sem, norefs_natC, Int.natCast_add, Int.natCast_one] <;> rfl), ⟨hm, hnext hpm⟩, by omega⟩
  have g1 := decide_eq_true g1
  rw [g1] at hpm hgm2
  refine EvC.cond_true (by simp only [go_sem, g1] <;> rfl) ?_
  apply EvC.seq
  apply EvC.drd mixed
  ·simp only [go_sem, hA, hAi, hmin, hjin, rowC, edgeC, List.length_map] <;> rfl
  ·simp; try omega
  ·kernel_rfl
  by_cases g2 : e1 = -1
  ·have d2 := decide_eq_true g2
   rw [decide_eq_false (show ¬ (e1 ≠ -1) from fun h => h g2)] at hpm
   have hg0 := hget e1.toNat (by omega)
   apply EvC.seq
   apply EvC.trd
   ·simp only [go_sem, d2, hg0, natC, hElen] <;> rfl
   ·simp; try omega
   refine EvC.cond_false (by simp only [go_sem] <;> rfl) ?_
   refine EvC.skip ?_
   refine EvC.rg (by simp only [go_sem] <;> rfl) (by exact inI64_of (by omega) (by omega)) ?_
   exact ⟨[(0, 0), (1, 1)], m + 1, rfl, (by simp only [go_sem, norefs_natC, Int.natCast_add, Int.natCast_one] <;> rfl), ⟨hm, hnext hpm⟩, by omega⟩
  have d2 := decide_eq_false g2
  rw [decide_eq_true (show e1 ≠ -1 from g2)] at hpm
  obtain ⟨q, rfl⟩ : ∃ q : Nat, e1 = q := ⟨e1.toNat, by omega⟩
  have hqin : (q : Int).toNat = q := Int.toNat_natCast q
  rw [hqin] at hpm
  by_cases g3 : q < n
  rotate_left
  ·have d3 := decide_eq_false (show ¬ (q : Int) < (n : Int) by omega)
   rw [d3] at hpm
   cases hgq : E[q]? with
   | none =>
     apply EvC.seq
     apply EvC.tr
     ·apply Tr.run
      ·simp only [go_sem, d2, d3, hgq, hqin, hElen] <;> rfl
      ·simp; try omega
      apply Tr.cons
      ·exact .skipv ((.sc (.int .i64 0))) rfl rfl (by simp only [go_sem] <;> rfl) (by simp only [go_sem] <;> rfl)
      apply Tr.done
      ·simp only [go_sem] <;> rfl
      ·simp
     refine EvC.cond_false (by simp only [go_sem] <;> rfl) ?_
     refine EvC.skip ?_
     refine EvC.rg (by simp only [go_sem] <;> rfl) (by exact inI64_of (by omega) (by omega)) ?_
     exact ⟨[(0, 0), (1, 1)], m + 1, rfl, (by simp only [go_sem, norefs_natC, Int.natCast_add, Int.natCast_one] <;> rfl), ⟨hm, hnext hpm⟩, by omega⟩
   | some xq =>
     apply EvC.seq
     apply EvC.trd
     ·simp only [go_sem, d2, d3, hgq, hqin, natC, hElen] <;> rfl
     ·simp; try omega
     refine EvC.cond_false (by simp only [go_sem] <;> rfl) ?_
     refine EvC.skip ?_
     refine EvC.rg (by simp only [go_sem] <;> rfl) (by exact inI64_of (by omega) (by omega)) ?_
     exact ⟨[(0, 0), (1, 1)], m + 1, rfl, (by simp only [go_sem, norefs_natC, Int.natCast_add, Int.natCast_one] <;> rfl), ⟨hm, hnext hpm⟩, by omega⟩
  have d3 := decide_eq_true (show (q : Int) < (n : Int) by omega)
  rw [d3] at hpm
  have hgq := hget q (by omega)
  have hgq2 : decide ((stN c q : Int) = (k : Int)) = decide (stN c q = k) := decide_eq_decide.2 (by omega)
  by_cases g4 : stN c q = k
  ·have d4 := decide_eq_true g4
   rw [d4] at hpm hgq2
   apply EvC.seq
   apply EvC.trd
   ·simp only [go_sem, d2, d3, hgq, hqin, hgq2, natC, hElen] <;> rfl
   ·simp; try omega
   refine EvC.cond_false (by simp only [go_sem] <;> rfl) ?_
   refine EvC.skip ?_
   refine EvC.rg (by simp only [go_sem] <;> rfl) (by exact inI64_of (by omega) (by omega)) ?_
   exact ⟨[(0, 0), (1, 1)], m + 1, rfl, (by simp only [go_sem, norefs_natC, Int.natCast_add, Int.natCast_one] <;> rfl), ⟨hm, hnext hpm⟩, by omega⟩
  have d4 := decide_eq_false g4
  rw [d4] at hpm hgq2
  rw [possB_false (m := m) (by omega) hpm] at hR
  apply EvC.seq
  apply EvC.trd
  ·simp only [go_sem, d2, d3, hgq, hqin, hgq2, natC, hElen] <;> rfl
  ·simp; try omega
  refine EvC.cond_true (by simp only [go_sem] <;> rfl) ?_
  refine EvC.seq (EvC.rg (by simp only [go_sem] <;> rfl) (by simp) ?_)
  refine EvC.gcE (st2 := ⟨[(4, .sc (.bool false))], [], [(0, .cells [.sc (.int .i64 t.ins), .sc (.int .i64 t.outs), .sl t.nl (t.rows.map rowC) .unk, .sl false ((frT t).map prC) .full, .tv 1 E.length 0 n .rest, .sc (.int .i64 fuel), .sc (.bool sp)]), (1, .arr 1 (E.map natC) false)], 3⟩) [4] [(0, 0), (1, 1)] 3 rfl (by simp only [go_sem, norefs_natC] <;> rfl) ?_
  refine EvC.ret ⟨.inl rfl, _, (by simp only [go_sem] <;> rfl), ?_⟩
  exact hR
 rw [decide_eq_true hk] at hkd
 refine EvC.cond_true (by simp only [go_sem, hkd] <;> rfl) ?_
 obtain ⟨A, hA, hAl⟩ : ∃ A : Row, t.rows[m]? = some A ∧ (A.2.length : Int) = t.ins := by
  obtain ⟨A, h1, h2, _⟩ := row_get v (n := m) (i := 0) (by omega) (by omega)
  exact ⟨A, h1, h2⟩
 refine EvC.seq (EvC.rg (by simp only [go_sem, hA, hmin, rowC, List.length_map] <;> rfl) (by simp; try omega) ?_)
 refine EvC.block ?_
 refine EvC.loopS (σ := Nat) (fun i => ⟨[(0, .rf 0 0), (1, .sc (.int .i64 k)), (5, .sc (.int .i64 n)), (6, .ia [.sc (.int .i64 p), .sc (.int .i64 j)]), (7, .sc (.int .i64 m)), (8, .sc (.int .i64 (stN c m))), (27, .tv 1 E.length 0 n .rest), (28, .sc (.int .i64 n)), (29, .sc (.int .i64 m)), (44, .sl A.1 (A.2.map edgeC) .unk), (45, .sc (.int .i64 A.2.length)), (46, .sc (.int .i64 i))], [], [(0, .cells [.sc (.int .i64 t.ins), .sc (.int .i64 t.outs), .sl t.nl (t.rows.map rowC) .unk, .sl false ((frT t).map prC) .full, .tv 1 E.length 0 n .rest, .sc (.int .i64 fuel), .sc (.bool sp)]), (1, .arr 1 (E.map natC) false)], 3⟩) (fun i => t.ins.toNat - i) (fun i => (i : Int) ≤ t.ins ∧ ∀ i' : Nat, i' < i → clashN t m n i' = false) [0, 1, 5, 6, 7, 8, 27, 28, 29, 44, 45, 46] 3 ?_ ?_
 ·exact ⟨[(0, 0), (1, 1)], 0, rfl, (by simp only [go_sem, norefs_natC, Int.natCast_zero] <;> rfl), by omega, fun _ h => absurd h (Nat.not_lt_zero _)⟩
 rintro i ⟨h3, h4⟩
 have hiin : (i : Int).toNat = i := Int.toNat_natCast i
 refine EvC.seq (EvC.rg (by simp only [go_sem] <;> rfl) (by simp) ?_)
 refine EvC.seq ?_
 refine EvC.cond (by simp only [go_sem] <;> rfl) (fun hc => ?_) (fun hc => ?_)
 rotate_left
 ·
  have hi : ¬ (i : Int) < t.ins := by have : ¬ i < A.2.length := by simpa using hc
                                      omega
  refine EvC.exit ?_
  have hnc : stN c m = k → ∀ i : Nat, (i : Int) < t.ins → clashN t m c.length i = false := fun _ i' hi' => by rw [← hnd]; exact h4 i' (by omega)
  clear hA hAl
  have hpm := possM_noclash (t := t) (c := c) (k := k) (m := m) hnc
  rw [hwr] at hpm
  obtain ⟨A, hA, hAl, hAi⟩ := row_get v (n := m) (i := j) (by omega) hp2
  have eA := v.edge (n := m) (i := j) (by omega) hp2
  generalize eT t m j = e at hAi hpm eA
  obtain ⟨e1, e2⟩ := e
  simp only at hpm eA
  have hgp := stN_get (c := c) (m := p) (by omega)
  have hgpE : E[p]? = some (stN c p) := hget p (by omega)
  have hgm2 : decide ((stN c m : Int) = (stN c p : Int)) = decide (stN c m = stN c p) := decide_eq_decide.2 (by omega)
  apply EvC.seq
  apply EvC.drd mixed
  ·simp only [go_sem, hpin, hgpE, natC, hgm2, hElen] <;> rfl
  ·simp; try omega
  ·kernel_rfl
  by_cases g1 : stN c m = stN c p
  rotate_left
  ·have g1 := decide_eq_false g1
   rw [g1] at hpm hgm2
   refine EvC.cond_false (by simp only [go_sem, g1] <;> rfl) ?_
   refine EvC.skip ?_
   refine EvC.rg (by simp only [go_sem] <;> rfl) (by exact inI64_of (by omega) (by omega)) ?_
   exact ⟨[(0, 0), (1, 1)], m + 1, rfl, (by simp only [go_sem, norefs_natC, Int.natCast_add, Int.natCast_one] <;> rfl), ⟨hm, hnext hpm⟩, by omega⟩
  have g1 := decide_eq_true g1
  rw [g1] at hpm hgm2
  refine EvC.cond_true (by simp only [go_sem, g1] <;> rfl) ?_
  apply EvC.seq
  apply EvC.drd mixed
  ·simp only [go_sem, hA, hAi, hmin, hjin, rowC, edgeC, List.length_map] <;> rfl
  ·simp; try omega
  ·kernel_rfl
  by_cases g2 : e1 = -1
  ·have d2 := decide_eq_true g2
   rw [decide_eq_false (show ¬ (e1 ≠ -1) from fun h => h g2)] at hpm
   have hg0 := hget e1.toNat (by omega)
   apply EvC.seq
   apply EvC.trd
   ·simp only [go_sem, d2, hg0, natC, hElen] <;> rfl
   ·simp; try omega
   refine EvC.cond_false (by simp only [go_sem] <;> rfl) ?_
   refine EvC.skip ?_
   refine EvC.rg (by simp only [go_sem] <;> rfl) (by exact inI64_of (by omega) (by omega)) ?_
   exact ⟨[(0, 0), (1, 1)], m + 1, rfl, (by simp only [go_sem, norefs_natC, Int.natCast_add, Int.natCast_one] <;> rfl), ⟨hm, hnext hpm⟩, by omega⟩
  have d2 := decide_eq_false g2
  rw [decide_eq_true (show e1 ≠ -1 from g2)] at hpm
  obtain ⟨q, rfl⟩ : ∃ q : Nat, e1 = q := ⟨e1.toNat, by omega⟩
  have hqin : (q : Int).toNat = q := Int.toNat_natCast q
  rw [hqin] at hpm
  by_cases g3 : q < n
  rotate_left
  ·have d3 := decide_eq_false (show ¬ (q : Int) < (n : Int) by omega)
   rw [d3] at hpm
   cases hgq : E[q]? with
   | none =>
     apply EvC.seq
     apply EvC.tr
     ·apply Tr.run
      ·simp only [go_sem, d2, d3, hgq, hqin, hElen] <;> rfl
      ·simp; try omega
      apply Tr.cons
      ·exact .skipv ((.sc (.int .i64 0))) rfl rfl (by simp only [go_sem] <;> rfl) (by simp only [go_sem] <;> rfl)
      apply Tr.done
      ·simp only [go_sem] <;> rfl
      ·simp
     refine EvC.cond_false (by simp only [go_sem] <;> rfl) ?_
     refine EvC.skip ?_
     refine EvC.rg (by simp only [go_sem] <;> rfl) (by exact inI64_of (by omega) (by omega)) ?_
     exact ⟨[(0, 0), (1, 1)], m + 1, rfl, (by simp only [go_sem, norefs_natC, Int.natCast_add, Int.natCast_one] <;> rfl), ⟨hm, hnext hpm⟩, by omega⟩
   | some xq =>
     apply EvC.seq
     apply EvC.trd
     ·simp only [go_sem, d2, d3, hgq, hqin, natC, hElen] <;> rfl
     ·simp; try omega
     refine EvC.cond_false (by simp only [go_sem] <;> rfl) ?_
     refine EvC.skip ?_
     refine EvC.rg (by simp only [go_sem] <;> rfl) (by exact inI64_of (by omega) (by omega)) ?_
     exact ⟨[(0, 0), (1, 1)], m + 1, rfl, (by simp only [go_sem, norefs_natC, Int.natCast_add, Int.natCast_one] <;> rfl), ⟨hm, hnext hpm⟩, by omega⟩
  have d3 := decide_eq_true (show (q : Int) < (n : Int) by omega)
  rw [d3] at hpm
  have hgq := hget q (by omega)
  have hgq2 : decide ((stN c q : Int) = (k : Int)) = decide (stN c q = k) := decide_eq_decide.2 (by omega)
  by_cases g4 : stN c q = k
  ·have d4 := decide_eq_true g4
   rw [d4] at hpm hgq2
   apply EvC.seq
   apply EvC.trd
   ·simp only [go_sem, d2, d3, hgq, hqin, hgq2, natC, hElen] <;> rfl
   ·simp; try omega
   refine EvC.cond_false (by simp only [go_sem] <;> rfl) ?_
   refine EvC.skip ?_
   refine EvC.rg (by simp only [go_sem] <;> rfl) (by exact inI64_of (by omega) (by omega)) ?_
   exact ⟨[(0, 0), (1, 1)], m + 1, rfl, (by simp only [go_sem, norefs_natC, Int.natCast_add, Int.natCast_one] <;> rfl), ⟨hm, hnext hpm⟩, by omega⟩
  have d4 := decide_eq_false g4
  rw [d4] at hpm hgq2
  rw [possB_false (m := m) (by omega) hpm] at hR
  apply EvC.seq
  apply EvC.trd
  ·simp only [go_sem, d2, d3, hgq, hqin, hgq2, natC, hElen] <;> rfl
  ·simp; try omega
  refine EvC.cond_true (by simp only [go_sem] <;> rfl) ?_
  refine EvC.seq (EvC.rg (by simp only [go_sem] <;> rfl) (by simp) ?_)
  refine EvC.gcE (st2 := ⟨[(4, .sc (.bool false))], [], [(0, .cells [.sc (.int .i64 t.ins), .sc (.int .i64 t.outs), .sl t.nl (t.rows.map rowC) .unk, .sl false ((frT t).map prC) .full, .tv 1 E.length 0 n .rest, .sc (.int .i64 fuel), .sc (.bool sp)]), (1, .arr 1 (E.map natC) false)], 3⟩) [4] [(0, 0), (1, 1)] 3 rfl (by simp only [go_sem, norefs_natC] <;> rfl) ?_
  refine EvC.ret ⟨.inl rfl, _, (by simp only [go_sem] <;> rfl), ?_⟩
  exact hR
 have hi : (i : Int) < t.ins := by have : i < A.2.length := by simpa using hc
                                   omega
 clear hc
 refine EvC.skip ?_
 refine EvC.seq ?_
 refine EvC.block ?_
 have hAi : A.2[i]? = some (eT t m i) := by
  obtain ⟨A', h1, _, h2⟩ := row_get v (n := m) (i := i) (by omega) hi
  rw [hA] at h1; cases h1; exact h2
 obtain ⟨B, hB, hBl, hBi⟩ := row_get v (n := n) (i := i) hn hi
 have hck : clashN t m n i = clashE (eT t m i) (eT t n i) := rfl
 generalize eT t m i = x at hAi hck
 generalize eT t n i = y at hBi hck
 obtain ⟨x1, x2⟩ := x
 obtain ⟨y1, y2⟩ := y
 have hK := clash38_is x1 x2 y1 y2
 rw [← hck] at hK
 refine EvC.seq (EvC.rg (by simp only [go_sem, hAi, hiin, edgeC, List.length_map] <;> rfl) (by simp; try omega) ?_)
 refine EvC.frzB 7 (by simp only [go_sem, norefs_natC] <;> rfl) ?_
 apply EvC.seq
 apply EvC.drw mixed
 ·apply Tr.run
  ·simp only [go_sem, hA, hAi, hB, hBi, hmin, hnin, hiin, rowC, edgeC, List.length_map] <;> rfl
  ·simp; try omega
  apply Tr.cons
  ·exact .call rfl rfl (by simp only [go_sem] <;> rfl) (by simp only [go_sem] <;> rfl) (by simp only [go_sem] <;> rfl) (by simp only [go_sem] <;> rfl) (by simp only [go_sem] <;> rfl) (hK)
  apply Tr.done
  ·simp only [go_sem] <;> rfl
  ·simp
 ·kernel_rfl
 cases hcb : clashN t m n i with
 | true =>
   refine EvC.cond_true (by simp only [go_sem, hcb] <;> rfl) ?_
   rw [possB_false (m := m) (by omega) (possM_clash hk hi (by rw [← hnd]; exact hcb))] at hR
   refine EvC.seq (EvC.rg (by simp only [go_sem] <;> rfl) (by simp) ?_)
   refine EvC.gcE (st2 := ⟨[(4, .sc (.bool false))], [], [(0, .cells [.sc (.int .i64 t.ins), .sc (.int .i64 t.outs), .sl t.nl (t.rows.map rowC) .unk, .sl false ((frT t).map prC) .full, .tv 1 E.length 0 n .rest, .sc (.int .i64 fuel), .sc (.bool sp)]), (1, .arr 1 (E.map natC) false)], 3⟩) [4] [(0, 0), (1, 1)] 3 rfl (by simp only [go_sem, norefs_natC] <;> rfl) ?_
   refine EvC.ret ⟨.inl rfl, _, (by simp only [go_sem] <;> rfl), ?_⟩
   exact hR
 | false =>
 refine EvC.cond_false (by simp only [go_sem, hcb] <;> rfl) ?_
 refine EvC.skip ?_
 refine EvC.rg (by simp only [go_sem] <;> rfl) (by exact inI64_of (by omega) (by omega)) ?_
 exact ⟨[(0, 0), (1, 1)], i + 1, rfl, (by simp only [go_sem, norefs_natC, Int.natCast_add, Int.natCast_one] <;> rfl), ⟨by omega, fun i' hi' => by
  by_cases e : i' = i
  ·rw [e]; exact hcb
  ·exact h4 i' (by omega)⟩, by omega⟩
end Go.Avl
