/-
  Rows that are built, made slices, appends: their runs.
  Appends.
  Appends to slices of capacity 0, and to full ones.
  Values that are compared cell by cell; keys of maps.
  Keys of maps; zero values.
  Binary operations; the operations of a region, one by one.
  Every operation that is no call of a Go function does what its abstract evaluation says.
  The other operations.
  Comparisons with nil, slices of slices, maps, built-in functions; all operations together.
-/
import Derived.Lib.AppendZerosOnto
import Derived.Test.YtnolphljopdomaaGreatDoorPart1
set_option linter.unusedSimpArgs false
set_option linter.unusedVariables false
set_option linter.unnecessarySimpa false
set_option linter.deprecated false
namespace Go.Avl
open Go
section
variable {P : Program} {G : Nat → Option Value} {F : Nat → Nat → Prop} {M : Mem} {w w' : World} {nx id : Nat} {x : AV}
theorem EsRel.imm {size : Nat} {c : List Value} {es : List (List AV)} (h : EsRel G F M w size c es) (hn : es.all AV.norefs = true) :
  ∀ i j (h : i < es.length) (h' : j < es[i].length), ∃ v, c[i * size + j]? = some v ∧ v.oneCell' = true ∧ Imm F w v es[i][j] := fun i j a b => by
 obtain ⟨v, hv, h1, hr⟩ := h.2.2 i j a b
 exact ⟨v, hv, h1, hr.imm_of (all_norefs hn i j a b)⟩
theorem ok_buildSlice (hm : SimM P G F M nx w) {t e : TypeId} {ti : TI} (ht : telem P t = some e) (hti : tinfo P e = some ti) {n : Nat} (ps : Array (Nat × Value)) (qs : List (Nat × AV)) (hl : ps.size = qs.length)
  (hp : ∀ i (h1 : i < ps.size) (h2 : i < qs.length), ps[i].1 = qs[i].1 ∧ RV G F M w ps[i].2 qs[i].2) {es : List (List AV)} (hf : fillEs M ti.size (List.replicate n (zeroOf ti)) qs = some es)
  (h1 : n * ti.size ≤ 16777216) (h2 : ti.zero.length = ti.size) (h3 : es.all AV.norefs = true) {cap : Cp} (hcap : (cap = .zer ∧ n = 0) ∨ cap = .full) :
  OpOk P G F M nx w id ((do pure (Next.value (← Instr.buildSlice t n ps)) : Sem Next).run P w) (.sl false es cap) M := by
 obtain ⟨z, hz, hzc⟩ := run_zero' (w := w) hti
 have hu := telem_inv ht
 obtain ⟨c', k1, k2, k3⟩ := fillEs_rv (n := n) hm ps.toList qs ((Array.range (n * ti.size)).map fun k => z.cells[k % z.cells.size]!) (List.replicate n (zeroOf ti)) es (by simpa using hl)
  (fun i h1 h2 => by simpa using hp i (by simpa using h1) h2) (by simp) (zeros_rel n h2 z.cells hzc (by obtain ⟨_, _, z', _, _, _, rfl, h, _⟩ := tinfo_inv hti; exact h)) hf
 have hrun : (Instr.buildSlice t n ps).run P w = .ok (.slice (some ⟨w.heap.size, 0, none⟩) n n) (pushW w (.cells c' e (0, 0))) := by
  simp only [Instr.buildSlice, Sem.run_bind, run_under hu, Result.andThen_ok, run_sizeOf' hti, Sem.run_ite]
  rw [if_neg (by omega)]
  by_cases h0 : n * ti.size = 0
  ·simp only [h0, if_true, Sem.run_pure, Result.andThen_ok]
   have e0 : ((Array.range (n * ti.size)).map fun k => z.cells[k % z.cells.size]!) = ((Array.range 0).map fun k => (#[] : Array Value)[k % (#[] : Array Value).size]!) := by rw [h0]; simp
   rw [e0] at k1
   rw [k1]
   simp only [Sem.run_bind, run_newRow, Result.andThen_ok, Sem.run_pure]
   rfl
  ·simp only [h0, if_false, Sem.run_bind, hz, Result.andThen_ok, Sem.run_pure]
   rw [k1]
   simp only [Sem.run_bind, run_newRow, Result.andThen_ok, Sem.run_pure]
   rfl
 refine OpOk.row hm (run_v hrun) (.imm ?_)
 have S := (simM_row hm (.cells c' e (0, 0)) rfl).2
 have k4 := (k3.step S).imm h3
 have := imm_row (w := pushW w (.cells c' e (0, 0))) (F' := addF F w.heap.size) (c := n) (cap := cap) (pushW_new _ _) (fun o => .inr rfl) (by omega) (by
  rcases hcap with ⟨rfl, h⟩ | rfl
  ·exact .inr (.inl ⟨rfl, h⟩)
  ·exact .inr (.inr (.inl ⟨rfl, k2.symm⟩))) k3.2.1 (fun i j a b => by obtain ⟨v, hv, h1, hr⟩ := k4 i j a b; exact ⟨v, by simpa using hv, h1, hr⟩)
 rw [k2] at this
 exact this
theorem room_le {n bytes : Nat} (h : room n bytes = true) : n * bytes ≤ 35184372088832 ∧ n ≤ 35184372088832 := by
 rw [room_eq] at h
 have h' := of_decide_eq_true h
 rw [Nat.mul_add] at h'
 omega
theorem wrap_id {x : Int} (h0 : -9223372036854775808 ≤ x) (h1 : x ≤ 9223372036854775807) : IntKind.i64.wrap x = x := IntWalk.i64_in x ⟨h0, h1⟩
theorem wrap_in {x : Int} (h : inI64 x = true) : IntKind.i64.wrap x = x := by
 rw [inI64_eq] at h
 simp only [Bool.and_eq_true, decide_eq_true_eq] at h
 exact wrap_id h.1 h.2
theorem tl_new {i : Nat} {es : List (List AV)} {esz : Nat} {fz : Bool} {h : Value} {nl : Bool} (hnl : nl = isNilSlice h) : RV (upG G i h) F ((i, .arr esz es fz) :: M) w h (.tl i es.length nl) :=
 .tl i _ nl h (by simp [upG_self]) (fun esz' es' fz' ho => by
  rw [mlook_cons, if_pos rfl] at ho; cases ho
  exact ⟨Nat.le_refl _, fun _ => ⟨upG_self _ _ _, hnl⟩⟩)
theorem tl_upd {i : Nat} {es : List (List AV)} {esz : Nat} {fz : Bool} {h : Value} {nl : Bool} (hnl : nl = isNilSlice h) : RV (upG G i h) F (mset M i (.arr esz es fz)) w h (.tl i es.length nl) :=
 .tl i _ nl h (by simp [upG_self]) (fun esz' es' fz' ho => by
  rw [mlook_mset, if_pos rfl] at ho; cases ho
  exact ⟨Nat.le_refl _, fun _ => ⟨upG_self _ _ _, hnl⟩⟩)
theorem ok_buildSliceO (hm : SimM P G F M nx w) {t e : TypeId} {ti : TI} (ht : telem P t = some e) (hti : tinfo P e = some ti) {n : Nat} (ps : Array (Nat × Value)) (qs : List (Nat × AV)) (hl : ps.size = qs.length)
  (hp : ∀ i (h1 : i < ps.size) (h2 : i < qs.length), ps[i].1 = qs[i].1 ∧ RV G F M w ps[i].2 qs[i].2) {es : List (List AV)} (hf : fillEs M ti.size (List.replicate n (zeroOf ti)) qs = some es)
  (h1 : n * ti.size ≤ 16777216) (h2 : ti.zero.length = ti.size) (hid : G id = none) (hn : id < nx) :
  OpOk P G F M nx w id ((do pure (Next.value (← Instr.buildSlice t n ps)) : Sem Next).run P w) (.tl id n false) ((id, .arr ti.size es false) :: M) := by
 obtain ⟨z, hz, hzc⟩ := run_zero' (w := w) hti
 have hu := telem_inv ht
 obtain ⟨c', k1, k2, k3⟩ := fillEs_rv (n := n) hm ps.toList qs ((Array.range (n * ti.size)).map fun k => z.cells[k % z.cells.size]!) (List.replicate n (zeroOf ti)) es (by simpa using hl)
  (fun i h1 h2 => by simpa using hp i (by simpa using h1) h2) (by simp) (zeros_rel n h2 z.cells hzc (by obtain ⟨_, _, z', _, _, _, rfl, h, _⟩ := tinfo_inv hti; exact h)) hf
 have hrun : (Instr.buildSlice t n ps).run P w = .ok (.slice (some ⟨w.heap.size, 0, none⟩) n n) (pushW w (.cells c' e (0, 0))) := by
  simp only [Instr.buildSlice, Sem.run_bind, run_under hu, Result.andThen_ok, run_sizeOf' hti, Sem.run_ite]
  rw [if_neg (by omega)]
  by_cases h0 : n * ti.size = 0
  ·simp only [h0, if_true, Sem.run_pure, Result.andThen_ok]
   have e0 : ((Array.range (n * ti.size)).map fun k => z.cells[k % z.cells.size]!) = ((Array.range 0).map fun k => (#[] : Array Value)[k % (#[] : Array Value).size]!) := by rw [h0]; simp
   rw [e0] at k1
   rw [k1]
   simp only [Sem.run_bind, run_newRow, Result.andThen_ok, Sem.run_pure]
   rfl
  ·simp only [h0, if_false, Sem.run_bind, hz, Result.andThen_ok, Sem.run_pure]
   rw [k1]
   simp only [Sem.run_bind, run_newRow, Result.andThen_ok, Sem.run_pure]
   rfl
 refine OpOk.new hm hid hn (run_v hrun) (fun b hb => by
  simp only [blkOf] at hb
  split at hb
  ·cases hb
  ·exact (Option.some.inj hb).symm) (fun S => ?_) ?_
 ·have k4 := k3.step S
  by_cases h0 : n = 0
  ·subst h0
   exact .inl ⟨List.length_eq_zero_iff.1 k2, _, upG_self _ _ _, fun a _ => rfl⟩
  refine .arr0 ⟨w.heap.size, n, c', e, by rw [upG_self, k2], h0, pushW_new _ _, by omega, by have := k3.1; rw [k2] at this; simpa using this, k3.2.1, fun k j hk hj => ?_, fun o hF => by have := hm.inF _ _ hF; omega, fun h => by cases h⟩
  obtain ⟨v, hv, h1c, hr⟩ := k4.2.2 k j hk hj
  exact ⟨v, by simpa using hv, h1c, hr⟩
 ·have := tl_new (G := G) (F := F) (M := M) (w := pushW w (.cells c' e (0, 0))) (i := id) (es := es) (esz := ti.size) (fz := false) (h := .slice (some ⟨w.heap.size, 0, none⟩) n n) (nl := false) rfl
  rw [k2] at this
  exact this
theorem ok_makeSlice (hm : SimM P G F M nx w) (hid : G id = none) (hn : id < nx) {t e : TypeId} {ti : TI} (ht : telem P t = some e) (hti : tinfo P e = some ti) {n m : Int} (h0 : 0 ≤ n) (h1 : n ≤ m) (h2 : room m.toNat ti.bytes = true) (h3 : ti.zero.length = ti.size) :
  OpOk P G F M nx w id ((do pure (Next.value (← Instr.makeSlice t (.int .i64 n) (.int .i64 m))) : Sem Next).run P w) (.tl id n.toNat false) ((id, .arr ti.size (List.replicate n.toNat (zeroOf ti)) false) :: M) := by
 obtain ⟨i, d, z0, hi, hd, hz0, rfl, hone, _⟩ := tinfo_inv hti
 obtain ⟨z, hz, hzc⟩ := run_zero' (w := w) hti
 have hu := telem_inv ht
 obtain ⟨r1, r2⟩ := room_le h2
 simp only at r1 r2 h3 hz hzc ⊢
 have hb : (i.bytes : Int) * m ≤ 35184372088832 := by
  have : ((i.bytes * m.toNat : Nat) : Int) = (i.bytes : Int) * m := by rw [Int.natCast_mul, Int.toNat_of_nonneg (by omega)]
  rw [← this, Nat.mul_comm]; omega
 have hbn : (i.bytes : Int) * n ≤ (i.bytes : Int) * m := Int.mul_le_mul_of_nonneg_left h1 (by omega)
 obtain ⟨cc, hcc⟩ : ∃ cc, cc = (Array.range (m.toNat * i.size)).map fun k => z.cells[k % z.cells.size]! := ⟨_, rfl⟩
 have hrun : (Instr.makeSlice t (.int .i64 n) (.int .i64 m)).run P w = .ok (.slice (some ⟨w.heap.size, 0, none⟩) n.toNat m.toNat) (pushW w (.cells cc e (0, 0))) := by
  have e1 : (2 : Int) ^ 48 = 281474976710656 := by decide
  simp only [Instr.makeSlice, Sem.run_bind, run_under hu, Result.andThen_ok, asInt, asIntOf, Sem.run_pure, run_tinfo hi, wrap_id (x := n) (by omega) (by omega), wrap_id (x := m) (by omega) (by omega), Sem.run_ite, e1]
  have e2 : (decide (m < 0) || decide ((i.bytes : Int) * m > 281474976710656)) = false := by
   rw [Bool.or_eq_false_iff]
   exact ⟨decide_eq_false (by omega), decide_eq_false (by omega)⟩
  rw [if_neg (by rw [e2]; simp only [Bool.false_or, Bool.or_eq_true, decide_eq_true_eq, Bool.false_eq_true, false_or]; omega)]
  simp only [run_askRoom, Result.andThen_ok, Sem.run_bind, run_sizeOf' hti, Sem.run_ite]
  by_cases h0 : m.toNat * i.size = 0
  ·simp only [h0, if_true, Sem.run_pure, Result.andThen_ok, Sem.run_bind, run_newRow]
   rw [hcc, h0, show Array.range 0 = #[] from rfl, Array.map_empty, Array.map_empty]
   rfl
  ·simp only [h0, if_false, Sem.run_bind, hz, Result.andThen_ok, Sem.run_pure, run_newRow]
   rw [hcc]; rfl
 have hrel : ∀ (G' : Nat → Option Value) (F' : Nat → Nat → Prop) (M' : Mem) (w' : World), EsRel G' F' M' w' i.size cc.toList (List.replicate m.toNat (zeroOf ⟨i.size, descAgg d, z0.cells.toList, i.bytes⟩)) := fun G' F' M' w' => by
  rw [hcc]; exact zeros_rel (ti := ⟨i.size, descAgg d, z0.cells.toList, i.bytes⟩) m.toNat h3 z.cells hzc hone
 have hcs : cc.size = m.toNat * i.size := by rw [hcc]; simp
 have key := OpOk.new (x := .tl id n.toNat false) hm hid hn (run_v hrun) (ob := .arr i.size (List.replicate n.toNat (zeroOf ⟨i.size, descAgg d, z0.cells.toList, i.bytes⟩)) false) (fun b hb => by
  simp only [blkOf] at hb; split at hb
  ·cases hb
  ·cases hb; rfl) (fun S => ?_) ?_
 ·exact key
 ·by_cases hm0 : m.toNat = 0
  ·refine .inl ⟨by simp; omega, some ⟨w.heap.size, 0, none⟩, ?_, fun a ha => by cases ha; rfl⟩
   rw [upG_self, hm0, show n.toNat = 0 by omega]
  ·obtain ⟨k1, k2, k3⟩ := hrel (upG G id (.slice (some ⟨w.heap.size, 0, none⟩) n.toNat m.toNat)) F ((id, .arr i.size (List.replicate n.toNat (zeroOf ⟨i.size, descAgg d, z0.cells.toList, i.bytes⟩)) false) :: M) (pushW w (.cells cc e (0, 0)))
   refine .arr0 ⟨w.heap.size, m.toNat, cc, e, by rw [upG_self]; simp, hm0, pushW_new _ _, by simp; omega, hcs, fun k hk => by simp [zeroOf, h3], fun k j hk hj => ?_, fun o hF => by have := hm.inF _ _ hF; omega, fun h => by cases h⟩
   simp only [List.length_replicate] at hk
   simp only [List.getElem_replicate] at hj
   obtain ⟨v, hv, h1c, hr⟩ := k3 k j (by simp; omega) (by simpa using hj)
   refine ⟨v, by simpa using hv, h1c, ?_⟩
   simpa using hr
 ·have := tl_new (G := G) (F := F) (M := M) (w := pushW w (.cells cc e (0, 0))) (i := id) (es := List.replicate n.toNat (zeroOf ⟨i.size, descAgg d, z0.cells.toList, i.bytes⟩)) (esz := i.size) (fz := false) (h := .slice (some ⟨w.heap.size, 0, none⟩) n.toNat m.toNat) (nl := false) rfl
  simpa using this
theorem ok_makeSliceV (hm : SimM P G F M nx w) (hid : G id = none) (hn : id < nx) {t e : TypeId} {ti : TI} (ht : telem P t = some e) (hti : tinfo P e = some ti) {n m : Int} (h0 : 0 ≤ n) (h1 : n ≤ m) (h2 : room m.toNat ti.bytes = true) (h3 : ti.zero.length = ti.size) :
  OpOk P G F M nx w id ((do pure (Next.value (← Instr.makeSlice t (.int .i64 n) (.int .i64 m))) : Sem Next).run P w) (.tv id m.toNat 0 n.toNat (.val m.toNat)) ((id, .arr ti.size (List.replicate m.toNat (zeroOf ti)) false) :: M) := by
 obtain ⟨i, d, z0, hi, hd, hz0, rfl, hone, _⟩ := tinfo_inv hti
 obtain ⟨z, hz, hzc⟩ := run_zero' (w := w) hti
 have hu := telem_inv ht
 obtain ⟨r1, r2⟩ := room_le h2
 simp only at r1 r2 h3 hz hzc ⊢
 have hb : (i.bytes : Int) * m ≤ 35184372088832 := by
  have : ((i.bytes * m.toNat : Nat) : Int) = (i.bytes : Int) * m := by rw [Int.natCast_mul, Int.toNat_of_nonneg (by omega)]
  rw [← this, Nat.mul_comm]; omega
 have hbn : (i.bytes : Int) * n ≤ (i.bytes : Int) * m := Int.mul_le_mul_of_nonneg_left h1 (by omega)
 obtain ⟨cc, hcc⟩ : ∃ cc, cc = (Array.range (m.toNat * i.size)).map fun k => z.cells[k % z.cells.size]! := ⟨_, rfl⟩
 have hrun : (Instr.makeSlice t (.int .i64 n) (.int .i64 m)).run P w = .ok (.slice (some ⟨w.heap.size, 0, none⟩) n.toNat m.toNat) (pushW w (.cells cc e (0, 0))) := by
  have e1 : (2 : Int) ^ 48 = 281474976710656 := by decide
  simp only [Instr.makeSlice, Sem.run_bind, run_under hu, Result.andThen_ok, asInt, asIntOf, Sem.run_pure, run_tinfo hi, wrap_id (x := n) (by omega) (by omega), wrap_id (x := m) (by omega) (by omega), Sem.run_ite, e1]
  have e2 : (decide (m < 0) || decide ((i.bytes : Int) * m > 281474976710656)) = false := by
   rw [Bool.or_eq_false_iff]
   exact ⟨decide_eq_false (by omega), decide_eq_false (by omega)⟩
  rw [if_neg (by rw [e2]; simp only [Bool.false_or, Bool.or_eq_true, decide_eq_true_eq, Bool.false_eq_true, false_or]; omega)]
  simp only [run_askRoom, Result.andThen_ok, Sem.run_bind, run_sizeOf' hti, Sem.run_ite]
  by_cases h0 : m.toNat * i.size = 0
  ·simp only [h0, if_true, Sem.run_pure, Result.andThen_ok, Sem.run_bind, run_newRow]
   rw [hcc, h0, show Array.range 0 = #[] from rfl, Array.map_empty, Array.map_empty]
   rfl
  ·simp only [h0, if_false, Sem.run_bind, hz, Result.andThen_ok, Sem.run_pure, run_newRow]
   rw [hcc]; rfl
 have hrel : ∀ (G' : Nat → Option Value) (F' : Nat → Nat → Prop) (M' : Mem) (w' : World), EsRel G' F' M' w' i.size cc.toList (List.replicate m.toNat (zeroOf ⟨i.size, descAgg d, z0.cells.toList, i.bytes⟩)) := fun G' F' M' w' => by
  rw [hcc]; exact zeros_rel (ti := ⟨i.size, descAgg d, z0.cells.toList, i.bytes⟩) m.toNat h3 z.cells hzc hone
 have hcs : cc.size = m.toNat * i.size := by rw [hcc]; simp
 have hblk : ∀ b, blkOf (.slice (some ⟨w.heap.size, 0, none⟩) m.toNat m.toNat) = some b → b = w.heap.size := fun b hb => by
  simp only [blkOf] at hb; split at hb
  ·cases hb
  ·cases hb; rfl
 refine OpOk.newH (h := .slice (some ⟨w.heap.size, 0, none⟩) m.toNat m.toNat) (x := .tv id m.toNat 0 n.toNat (.val m.toNat)) hm hid hn (run_v hrun) (ob := .arr i.size (List.replicate m.toNat (zeroOf ⟨i.size, descAgg d, z0.cells.toList, i.bytes⟩)) false) hblk (fun S => ?_) ?_
 ·by_cases hm0 : m.toNat = 0
  ·refine .inl ⟨by simp; omega, some ⟨w.heap.size, 0, none⟩, ?_, fun a ha => by cases ha; rfl⟩
   rw [upG_self, hm0]
  ·obtain ⟨k1, k2, k3⟩ := hrel (upG G id (.slice (some ⟨w.heap.size, 0, none⟩) m.toNat m.toNat)) F ((id, .arr i.size (List.replicate m.toNat (zeroOf ⟨i.size, descAgg d, z0.cells.toList, i.bytes⟩)) false) :: M) (pushW w (.cells cc e (0, 0)))
   refine .arr0 ⟨w.heap.size, m.toNat, cc, e, by rw [upG_self]; simp, hm0, pushW_new _ _, by simp, hcs, fun k hk => by simp [zeroOf, h3], fun k j hk hj => ?_, fun o hF => by have := hm.inF _ _ hF; omega, fun h => by cases h⟩
   simp only [List.length_replicate] at hk
   simp only [List.getElem_replicate] at hj
   obtain ⟨v, hv, h1c, hr⟩ := k3 k j (by simp; omega) (by simpa using hj)
   refine ⟨v, by simpa using hv, h1c, ?_⟩
   simpa using hr
 ·refine .tv id _ _ _ _ _ (by rw [upG_self]; simp) fun esz' es' fz' ho' => ?_
  simp only [mlook, if_pos] at ho'
  cases ho'
  refine ⟨by simp, fun _ => ⟨by omega, w.heap.size, 0, m.toNat, upG_self _ _ _, ?_, m.toNat, by simp, by omega, .inr (.inl rfl)⟩⟩
  by_cases hm0 : m.toNat = 0
  ·refine .inr ⟨hm0, by rw [hm0], ?_⟩
   rw [hm0, show n.toNat = 0 by omega]
  ·exact .inl hm0
end
section
variable {P : Program} {G : Nat → Option Value} {F : Nat → Nat → Prop} {M : Mem} {w w' : World} {nx id : Nat} {x : AV}
def drew1 (w : World) : World := { w with drawn := w.drawn + 1 }
theorem run_append_place {t t' e e' ty : TypeId} {ti : TI} (ht : telem P t = some e) (ht' : telem P t' = some e') (hti : tinfo P e = some ti) {base : Option Addr} {sLen sCap n : Nat} {u : Value} {new : List Value}
  (hn : (Builtin.lenOf u).run P w = .ok n w) (hnew : (Builtin.firstCells ti.size n u).run P w = .ok new.toArray w) (hle : sLen + n ≤ sCap)
  (hst : ∀ a, base = some a → (storeCells (a.add (sLen * ti.size)) new).run P w = .ok () w') (hno : base = none → w' = w) :
  (Builtin.append_ #[t, t'] ty #[.slice base sLen sCap, u]).run P w = .ok (.slice base (sLen + n) sCap) w' := by
 have hu := telem_inv ht
 have hu' := telem_inv ht'
 simp only [Builtin.append_, List.getElem?_toArray, List.getElem?_cons_zero, List.getElem?_cons_succ, Sem.run_bind, run_under hu, run_under hu', Result.andThen_ok, run_sizeOf' hti, Sem.run_pure, Bool.false_eq_true, if_false, hn, Bool.not_false, if_true, Sem.run_ite, hle, hnew]
 cases base with
 | none => simp [hno rfl]
 | some a => simp [hst a rfl]
theorem run_append_grow {t t' e e' ty : TypeId} {ti : TI} (ht : telem P t = some e) (ht' : telem P t' = some e') (hti : tinfo P e = some ti) {base : Option Addr} {sLen sCap n : Nat} {u : Value} {old new : List Value}
  (hn : (Builtin.lenOf u).run P w = .ok n w) (hold : (Builtin.firstCells ti.size sLen (.slice base sLen sCap)).run P (drew1 w) = .ok old.toArray (drew1 w)) (hnew : (Builtin.firstCells ti.size n u).run P (drew1 w) = .ok new.toArray (drew1 w)) (hgt : sCap < sLen + n)
  (hr : room (sLen + n) ti.bytes = true) :
  ∃ c rest, sLen + n ≤ c ∧ (ti.zero.length = ti.size → rest.size = (c - (sLen + n)) * ti.size) ∧
    (Builtin.append_ #[t, t'] ty #[.slice base sLen sCap, u]).run P w = .ok (.slice (some ⟨w.heap.size, 0, none⟩) (sLen + n) c) (pushW (drew1 w) (.cells (old.toArray ++ new.toArray ++ rest) e (0, 0))) := by
 have hu := telem_inv ht
 have hu' := telem_inv ht'
 obtain ⟨i, d, z0, hi, hd, hz0, rfl, hone, _⟩ := tinfo_inv hti
 obtain ⟨z, hz, hzc⟩ := run_zero' (w := drew1 w) hti
 obtain ⟨r1, r2⟩ := room_le hr
 simp only at r1 r2 hold hnew
 have hb : Builtin.nextslicecap (sLen + n) sCap * i.bytes ≤ 2 ^ 48 := by
  calc Builtin.nextslicecap (sLen + n) sCap * i.bytes ≤ (2 * (sLen + n)) * i.bytes := Nat.mul_le_mul_right _ (nextcap_le hgt)
   _ = 2 * ((sLen + n) * i.bytes) := by rw [Nat.mul_assoc]
   _ ≤ 2 ^ 48 := by omega
 obtain ⟨c, hc⟩ : ∃ c, c = Question.cut (.appendCap (sLen + n) sCap e) (w.tape w.drawn (.appendCap (sLen + n) sCap e)) := ⟨_, rfl⟩
 have hcle : sLen + n ≤ c := by rw [hc]; simp [Question.cut]
 refine ⟨c, Builtin.zeroCells z.cells (c - (sLen + n)), hcle, fun h => ?_, ?_⟩
 ·have : z.cells.size = i.size := by
    have h' := h
    rw [← hzc] at h'
    simpa using h'
  simp [Builtin.zeroCells, this]
 ·have hmax : ¬ ((sLen + n : Nat) : Int) > IntKind.i64.max := by
    have : IntKind.i64.max = 9223372036854775807 := by decide
    rw [this]; omega
  simp only [Builtin.append_, List.getElem?_toArray, List.getElem?_cons_zero, List.getElem?_cons_succ, Sem.run_bind, run_under hu, run_under hu', Result.andThen_ok, run_sizeOf' hti, Sem.run_pure, Bool.false_eq_true, if_false, hn, Bool.not_false, if_true, Sem.run_ite,
   show ¬ (sLen + n ≤ sCap) by omega, run_tinfo hi, false_or, hmax, false_and, show ¬ (Builtin.nextslicecap (sLen + n) sCap * i.bytes > 2 ^ 48) by omega, run_choose, Question.forced, ← hc]
  rw [show ({ w with drawn := w.drawn + 1 } : World) = drew1 w from rfl]
  simp only [run_askRoom, Result.andThen_ok, hold, hnew, hz, run_newRow, Sem.run_pure]
  rfl
theorem drew1_heap (w : World) : (drew1 w).heap = w.heap := rfl
def frz (F : Nat → Nat → Prop) (fz : Bool) (b ko n : Nat) : Nat → Nat → Prop := fun b' o => F b' o ∨ (fz = true ∧ b' = b ∧ ko ≤ o ∧ o < ko + n)
theorem slice_inj {a a' : Option Addr} {n n' c c' : Nat} (h : some (Value.slice a n c) = some (Value.slice a' n' c')) : a = a' ∧ n = n' ∧ c = c' := by
 simpa using h
theorem tl_handle (hm : SimM P G F M nx w) {v : Value} {i n esz : Nat} {nl fz : Bool} {es : List (List AV)} (hv : RV G F M w v (.tl i n nl)) (ho : mlook M i = some (.arr esz es fz)) (hn : n = es.length) :
  G i = some v ∧ nl = isNilSlice v ∧ ∃ va vc, v = .slice va es.length vc ∧ ((es = [] ∧ vc = 0 ∧ ∀ a, va = some a → a = a) ∨
    ∃ (b ko : Nat) (cc : Array Value) (e : TypeId), va = some ⟨b, ko, none⟩ ∧ vc ≠ 0 ∧ w.heap[b]? = some (.cells cc e (0, 0)) ∧ es.length ≤ vc ∧ cc.size = ko + vc * esz ∧ (∀ i (h : i < es.length), es[i].length = esz) ∧
      (∀ i j (h : i < es.length) (h' : j < es[i].length), ∃ v, cc[ko + (i * esz + j)]? = some v ∧ v.oneCell' = true ∧ RV G F M w v es[i][j]) ∧ (∀ o, F b o → fz = true ∧ ko ≤ o ∧ o < ko + es.length * esz) ∧
      (fz = true → (∀ i j (h : i < es.length) (h' : j < es[i].length), es[i][j].noref = true) ∧ ∀ o, o < es.length * esz → F b (ko + o))) := by
 obtain ⟨_, hh⟩ := hv.inv_tl
 obtain ⟨hG, hnl⟩ := (hh _ _ _ ho).2 hn
 refine ⟨hG, hnl, ?_⟩
 rcases (hm.obj i _ ho).2 with ⟨h0, base, k1, hsp⟩ | ⟨b, ko, c, cc, e, k1, k2, k3, k4, k5, k6, k7, k8, k9⟩
 ·rw [hG] at k1
  have k1 := Option.some.inj k1
  subst k1; subst h0
  exact ⟨base, 0, rfl, .inl ⟨rfl, rfl, hsp⟩⟩
 ·rw [hG] at k1
  have k1 := Option.some.inj k1
  subst k1
  exact ⟨_, c, rfl, .inr ⟨b, ko, cc, e, rfl, k2, k3, k4, k5, k6, k7, k8, k9⟩⟩
theorem EsRel.one {size : Nat} {c : List Value} {es : List (List AV)} (h : EsRel G F M w size c es) : ∀ q ∈ c, q.oneCell' = true := by
 intro q hq
 obtain ⟨k, hk, rfl⟩ := List.mem_iff_getElem.1 hq
 have hk' : k < es.length * size := by rw [← h.1]; exact hk
 have hs : 0 < size := by
  rcases Nat.eq_zero_or_pos size with e | e
  ·subst e; simp at hk'
  ·exact e
 have h1 : k / size < es.length := Nat.div_lt_of_lt_mul (by rw [Nat.mul_comm]; exact hk')
 have h2 : k % size < size := Nat.mod_lt _ hs
 obtain ⟨v, hv, h3, _⟩ := h.2.2 (k / size) (k % size) h1 (by rw [h.2.1 _ h1]; exact h2)
 have e : k / size * size + k % size = k := by rw [Nat.mul_comm]; exact Nat.div_add_mod k size
 rw [e, List.getElem?_eq_getElem hk] at hv
 rw [Option.some.inj hv]; exact h3
theorem ok_append_tl (hm : SimM P G F M nx w) {t t' e e' ty : TypeId} {ti : TI} (ht : telem P t = some e) (ht' : telem P t' = some e') (hti : tinfo P e = some ti) {v u : Value} {i n esz : Nat} {nl fz : Bool} {es ys : List (List AV)} {y : AV}
  (hv : RV G F M w v (.tl i n nl)) (ho : mlook M i = some (.arr esz es fz)) (hn : n = es.length) (hu : RV G F M w u y) (hy : elemsOf M y = some ys)
  (h1 : esz = ti.size) (h2 : ti.zero.length = ti.size) (h3 : room (es.length + ys.length) ti.bytes = true) (h4 : ∀ i (h : i < ys.length), ys[i].length = esz) (h5 : fz = true → ys.all AV.norefs = true) :
  OpOk P G F M nx w id ((do pure (Next.value (← Builtin.append_ #[t, t'] ty #[v, u])) : Sem Next).run P w) (.tl i (es ++ ys).length (nl && ys.isEmpty)) (mset M i (.arr esz (es ++ ys) fz)) := by
 subst hn
 subst h1
 obtain ⟨hG, hnl, va, vc, rfl, hcase⟩ := tl_handle hm hv ho rfl
 obtain ⟨_, hlen, cy, hcy, hry⟩ := elems_cells hm hu hy h4
 have D := (simM_drew (w' := drew1 w) hm (drew1_heap w) ⟨rfl, rfl, rfl, fun _ es c h => ⟨es, c, h, List.prefix_refl _⟩⟩)
 by_cases hroom : es.length + ys.length ≤ vc
 ·rcases hcase with ⟨h0, hvc, hsp⟩ | ⟨b, ko, cc, e0, hva, k2, k3, k4, k5, k6, k7, k8, k9⟩
  ·subst h0; subst hvc
   have hys : ys = [] := by cases ys with
    | nil => rfl
    | cons a l => simp at hroom
   subst hys
   have hcy0 : cy = [] := by have := hry.1; simpa using this
   subst hcy0
   have hrun := run_append_place (w' := w) (ty := ty) ht ht' hti (base := va) (sLen := 0) (sCap := 0) hlen hcy (by simp) (fun a _ => by simp [storeCells]) (fun _ => rfl)
   refine OpOk.upd (F' := F) (h' := .slice va 0 0) hm (.inl (run_v hrun)) ho hG ⟨rfl, .inl ⟨by simp, rfl⟩⟩ .refl (Nat.le_refl _) (fun _ _ _ => rfl) (fun _ _ h => h) (fun _ _ _ => rfl) (fun _ _ h => .inl h) (fun _ h => .inl h)
    (fun S => .inl ⟨by simp, va, upG_self _ _ _, hsp⟩) ?_
   simpa using tl_upd (G := G) (F := F) (M := M) (w := w) (i := i) (es := ([] : List (List AV))) (esz := ti.size) (fz := fz) (h := .slice va 0 0) (nl := nl) hnl
  ·subst hva
   have hcyl : cy.length = ys.length * ti.size := hry.1
   have hend : ko + (es.length * ti.size + ys.length * ti.size) ≤ cc.size := by
    rw [k5, ← Nat.add_mul]; exact Nat.add_le_add_left (Nat.mul_le_mul_right _ hroom) _
   have hst := run_storeCells' (P := P) (w := w) b (ko + es.length * ti.size) cy 0 k3 (by omega) hry.one
   have hrun := run_append_place (w' := setCells w b (ko + es.length * ti.size) cy) (ty := ty) ht ht' hti (base := some ⟨b, ko, none⟩) (sLen := es.length) (sCap := vc) hlen hcy hroom
    (fun a ha => by cases ha; rw [add_eq]; simpa using hst) (fun h => by cases h)
   have hget := putCells_get cy cc (ko + es.length * ti.size)
   have hb' := setCells_block cy (off := ko + es.length * ti.size) k3
   have hF2 : ∀ b' o, F b' o → (setCells w b (ko + es.length * ti.size) cy).cell? ⟨b', o, none⟩ = w.cell? ⟨b', o, none⟩ := fun b' o hF => by
    by_cases e : b' = b
    ·subst e
     have hlt := (k8 o hF).2.2
     rw [cell?_block hb', cell?_block k3, hget o (by omega), if_neg (by omega)]
    ·exact cell?_same (setCells_other _ e) o
   have hlen' : (es ++ ys).length = es.length + ys.length := by simp
   rw [← hlen'] at hrun
   refine OpOk.upd (F' := frz F fz b ko ((es ++ ys).length * ti.size)) (h' := .slice (some ⟨b, ko, none⟩) (es ++ ys).length vc) hm (.inl (run_v hrun)) ho hG ?_ (kept_setCells _) (by rw [setCells_size]; exact Nat.le_refl _)
    (fun k hk hne => setCells_other _ (fun e => hne (by rw [e]; simp [blkOf, k2]))) (fun _ _ h => .inl h) hF2 (fun b' o h => ?_) (fun b' hb' => .inl (by simpa [blkOf, k2] using hb')) (fun S => ?_) ?_
   ·refine ⟨rfl, ?_⟩
    cases ys with
    | nil => exact .inl (by simp)
    | cons a l => exact .inr (by simp)
   ·rcases h with h | ⟨_, rfl, _⟩
    ·exact .inl h
    ·exact .inr (.inr (by simp [blkOf, k2]))
   ·have T : ∀ {v x}, RV G F M w v x → RV _ _ _ _ v x := fun h => h.step S (fun _ _ => trivial)
    refine .inr ⟨b, ko, vc, putCells cc (ko + es.length * ti.size) cy, e0, upG_self _ _ _, k2, hb', by rw [hlen']; exact hroom, by rw [putCells_size]; exact k5, fun j hj => ?_, fun j l hj hl => ?_, fun o h => ?_, fun hz => ⟨fun j l hj hl => ?_, fun o ho => .inr ⟨hz, rfl, Nat.le_add_right _ _, Nat.add_lt_add_left ho _⟩⟩⟩
    ·rw [List.getElem_append]; split
     ·exact k6 _ _
     ·exact h4 _ _
    ·by_cases hlt : j < es.length
     ·rw [List.getElem_append_left hlt] at hl
      obtain ⟨q, hq, h1c, hr⟩ := k7 j l hlt hl
      refine ⟨q, ?_, h1c, by simp only [List.getElem_append_left hlt]; exact T hr⟩
      have := row_lt hlt (show l < ti.size by rw [k6 j hlt] at hl; exact hl)
      rw [hget _ (by omega), if_neg (by omega)]; exact hq
     ·have e0 : (es ++ ys)[j] = ys[j - es.length]'(by simp at hj; omega) := List.getElem_append_right (by omega)
      have hjy : j - es.length < ys.length := by simp at hj; omega
      have hl' : l < ys[j - es.length].length := by rw [← e0]; exact hl
      have hls : l < ti.size := by rw [h4 _ hjy] at hl'; exact hl'
      obtain ⟨q, hq, h1c, hr⟩ := hry.2.2 (j - es.length) l hjy hl'
      refine ⟨q, ?_, h1c, by simp only [e0]; exact T hr⟩
      have hlt2 := row_lt hjy hls
      have : ko + (j * ti.size + l) - (ko + es.length * ti.size) = (j - es.length) * ti.size + l := by rw [Nat.sub_mul]; have := Nat.mul_le_mul_right ti.size (show es.length ≤ j by omega); omega
      have hge := Nat.mul_le_mul_right ti.size (show es.length ≤ j by omega)
      rw [hget _ (by omega), if_pos (by omega), this]; exact hq
    ·rcases h with h | ⟨hz, _, ho⟩
     ·obtain ⟨hz, ho1, ho⟩ := k8 o h
      refine ⟨hz, ho1, Nat.lt_of_lt_of_le ho (Nat.add_le_add_left (Nat.mul_le_mul_right _ (by rw [hlen']; omega)) _)⟩
     ·exact ⟨hz, ho⟩
    ·by_cases hlt : j < es.length
     ·simp only [List.getElem_append_left hlt]; exact (k9 hz).1 j l hlt (by rw [List.getElem_append_left hlt] at hl; exact hl)
     ·have e0 : (es ++ ys)[j] = ys[j - es.length]'(by simp at hj; omega) := List.getElem_append_right (by omega)
      simp only [e0]
      exact all_norefs (h5 hz) _ l _ (by rw [← e0]; exact hl)
   ·refine tl_upd ?_
    rw [hnl]; simp [isNilSlice]
 ·
  have hyne : 0 < ys.length := by
   rcases Nat.eq_zero_or_pos ys.length with h | h
   ·exfalso
    rcases hcase with ⟨h0, hvc, _⟩ | ⟨b, ko, cc, e0, _, _, _, k4, _⟩
    ·subst h0; simp [h, hvc] at hroom
    ·omega
   ·exact h
  have hesl : ∀ i (h : i < es.length), es[i].length = ti.size := by
   rcases hcase with ⟨h0, _⟩ | ⟨b, ko, cc, e0, _, _, _, _, _, k6, _⟩
   ·subst h0; intro i h; simp at h
   ·exact k6
  have hu1 : RV G F M (drew1 w) u y := hu.step D.2 (fun _ _ => trivial)
  have hv1 : RV G F M (drew1 w) (.slice va es.length vc) (.tl i es.length nl) := hv.step D.2 (fun _ _ => trivial)
  obtain ⟨_, _, cy1, hcy1, hry1⟩ := elems_cells D.1 hu1 hy h4
  obtain ⟨_, _, cx1, hcx1, hrx1⟩ := elems_cells D.1 hv1 (ys := es) (size := ti.size) (by simp [elemsOf, ho]) hesl
  obtain ⟨c, rest, hc, hrest, hrun⟩ := run_append_grow (ty := ty) ht ht' hti hlen hcx1 hcy1 (by omega) h3
  have hlen' : (es ++ ys).length = es.length + ys.length := by simp
  rw [← hlen'] at hrun hc hrest
  refine OpOk.upd (w' := pushW (drew1 w) (.cells (cx1.toArray ++ cy1.toArray ++ rest) e (0, 0))) (F' := frz F fz w.heap.size 0 ((es ++ ys).length * ti.size)) (h' := .slice (some ⟨w.heap.size, 0, none⟩) (es ++ ys).length c) hm (.inl (run_v hrun)) ho hG ⟨rfl, .inr (by simp; omega)⟩ (Kept.trans (w' := drew1 w) ⟨rfl, rfl, rfl, fun _ es c h => ⟨es, c, h, List.prefix_refl _⟩⟩ (.push rfl)) (by rw [pushW_size]; exact Nat.le_succ _)
   (fun k hk _ => pushW_old _ _ hk) (fun _ _ h => .inl h) (fun b' o hF => cell?_same (pushW_old (drew1 w) _ (hm.inF b' o hF)) o) (fun b' o h => ?_) (fun b' hb' => ?_) (fun S => ?_) (tl_upd ?_)
  ·rcases h with h | ⟨_, rfl, _⟩
   ·exact .inl h
   ·exact .inr (.inl ⟨Nat.le_refl _, by rw [pushW_size]; exact Nat.lt_succ_self _⟩)
  ·simp only [blkOf] at hb'
   split at hb'
   ·cases hb'
   ·cases hb'; exact .inr (Nat.le_refl _)
  ·have S' : Step All G F M (drew1 w) _ _ _ _ :=
     { kept := ⟨S.kept.os, S.kept.tape, S.kept.output, S.kept.maps⟩, size := S.size, out := S.out, F1 := S.F1, F2 := S.F2, F3 := S.F3, own := S.own, some' := S.some', same := S.same, keep := S.keep }
   have hrel := (hrx1.append hry1).step S'
   refine .arr0 ⟨w.heap.size, c, _, e, upG_self _ _ _, by omega, pushW_new (drew1 w) _, hc, ?_, hrel.2.1, fun j l hj hl => ?_, fun o h => ?_, fun hz => ⟨fun j l hj hl => ?_, fun o ho => .inr ⟨hz, rfl, Nat.zero_le _, by rw [Nat.zero_add]; exact ho⟩⟩⟩
   ·have e1 := hrx1.1
    have e2 := hry1.1
    simp only [Array.size_append, List.size_toArray, hrest h2, e1, e2]
    rw [← Nat.add_mul, ← hlen', ← Nat.add_mul]; congr 1; omega
   ·obtain ⟨q, hq, h1c, hr⟩ := hrel.2.2 j l hj hl
    refine ⟨q, ?_, h1c, hr⟩
    rw [Array.getElem?_append_left]
    ·simpa using hq
    ·have := (List.getElem?_eq_some_iff.1 hq).1
     simpa using this
   ·rcases h with h | ⟨hz, _, _, ho⟩
    ·have := hm.inF _ _ h; omega
    ·exact ⟨hz, by rw [Nat.zero_add] at ho; exact ho⟩
   ·by_cases hlt : j < es.length
    ·simp only [List.getElem_append_left hlt]
     rcases hcase with ⟨h0, _⟩ | ⟨b, ko, cc, e0, _, _, _, _, _, _, _, _, k9⟩
     ·subst h0; simp at hlt
     ·exact (k9 hz).1 j l hlt (by rw [List.getElem_append_left hlt] at hl; exact hl)
    ·have e0 : (es ++ ys)[j] = ys[j - es.length]'(by simp at hj; omega) := List.getElem_append_right (by omega)
     simp only [e0]
     exact all_norefs (h5 hz) _ l _ (by rw [← e0]; exact hl)
  ·have : ys.isEmpty = false := by cases ys <;> simp at hyne ⊢
   simp [isNilSlice, this]
end
section
variable {P : Program} {G : Nat → Option Value} {F : Nat → Nat → Prop} {M : Mem} {w w' : World} {nx id : Nat} {x : AV}
theorem ok_append_zer (hm : SimM P G F M nx w) (hid : G id = none) (hn : id < nx) {t t' e e' ty : TypeId} {ti : TI} (ht : telem P t = some e) (ht' : telem P t' = some e') (hti : tinfo P e = some ti) {v u : Value} {nl : Bool} {es ys : List (List AV)} {y : AV}
  (hv : RV G F M w v (.sl nl es .zer)) (hu : RV G F M w u y) (hy : elemsOf M y = some ys)
  (h1 : es.length = 0) (h2 : ti.zero.length = ti.size) (h3 : room ys.length ti.bytes = true) (h4 : ∀ i (h : i < ys.length), ys[i].length = ti.size) :
  OpOk P G F M nx w id ((do pure (Next.value (← Builtin.append_ #[t, t'] ty #[v, u])) : Sem Next).run P w) (.tl id ys.length (nl && ys.isEmpty)) ((id, .arr ti.size ys false) :: M) := by
 have hes : es = [] := List.length_eq_zero_iff.1 h1
 subst hes
 obtain ⟨va, rfl, hnl, hsp⟩ : ∃ va, v = .slice va 0 0 ∧ nl = isNilSlice (.slice va 0 0) ∧ ∀ a, va = some a → a = a := by
  cases hv.inv_sl with
  | nil _ _ => exact ⟨none, rfl, rfl, fun a h => by cases h⟩
  | sz a _ _ => exact ⟨some a, rfl, rfl, fun _ _ => rfl⟩
  | sl b off c esz _ _ vs hc hcap hes hF hi =>
    rcases hcap with h | ⟨_, h⟩ | ⟨h, _⟩ | h
    ·cases h
    ·subst h; exact ⟨some ⟨b, off, none⟩, rfl, rfl, fun a h => by cases h; rfl⟩
    ·cases h
    ·cases h
 obtain ⟨_, hlen, cy, hcy, hry⟩ := elems_cells hm hu hy h4
 have D := (simM_drew (w' := drew1 w) hm (drew1_heap w) ⟨rfl, rfl, rfl, .refl⟩)
 by_cases hys : ys = []
 ·subst hys
  have hcy0 : cy = [] := by have := hry.1; simpa using this
  subst hcy0
  have hrun := run_append_place (w' := w) (ty := ty) ht ht' hti (base := va) (sLen := 0) (sCap := 0) hlen hcy (by simp) (fun a _ => by simp [storeCells]) (fun _ => rfl)
  refine OpOk.newNil hm hid hn (run_v hrun) (by cases va <;> simp [blkOf]) (fun S => .inl ⟨rfl, va, upG_self _ _ _, hsp⟩) ?_
  have := tl_new (G := G) (F := F) (M := M) (w := w) (i := id) (es := ([] : List (List AV))) (esz := ti.size) (fz := false) (h := .slice va 0 0) (nl := nl) hnl
  simpa using this
 ·have hyne : 0 < ys.length := List.length_pos_iff.2 hys
  have hu1 : RV G F M (drew1 w) u y := hu.step D.2 (fun _ _ => trivial)
  obtain ⟨_, _, cy1, hcy1, hry1⟩ := elems_cells D.1 hu1 hy h4
  have hold : (Builtin.firstCells ti.size 0 (.slice va 0 0)).run P (drew1 w) = .ok (([] : List Value).toArray) (drew1 w) := by
   cases va <;> simp [Builtin.firstCells, loadCells, loadCellsFrom]
  obtain ⟨c, rest, hc, hrest, hrun⟩ := run_append_grow (ty := ty) ht ht' hti (sLen := 0) (sCap := 0) hlen hold hcy1 (by omega) (by simpa using h3)
  rw [Nat.zero_add] at hrun hc hrest
  refine OpOk.drew (w1 := drew1 w) hm rfl (OpOk.new D.1 hid hn (run_v hrun) (fun b hb => ?_) (fun S => ?_) ?_)
  ·simp only [blkOf] at hb
   split at hb
   ·cases hb
   ·cases hb; rfl
  ·have hrel := hry1.step S
   refine .arr0 ⟨w.heap.size, c, _, e, upG_self _ _ _, by omega, pushW_new (drew1 w) _, hc, ?_, hrel.2.1, fun j l hj hl => ?_, fun o h => ?_, fun hz => by cases hz⟩
   ·have e2 := hry1.1
    simp only [Array.size_append, List.size_toArray, hrest h2, e2, List.length_nil]
    rw [Nat.zero_add, ← Nat.add_mul]; congr 1; omega
   ·obtain ⟨q, hq, h1c, hr⟩ := hrel.2.2 j l hj hl
    refine ⟨q, ?_, h1c, hr⟩
    rw [Array.getElem?_append_left]
    ·simpa using hq
    ·have := (List.getElem?_eq_some_iff.1 hq).1
     simpa using this
   ·have := hm.inF _ _ h; omega
  ·have := tl_new (G := G) (F := F) (M := M) (w := pushW (drew1 w) (.cells (([] : List Value).toArray ++ cy1.toArray ++ rest) e (0, 0))) (i := id) (es := ys) (esz := ti.size) (fz := false) (h := .slice (some ⟨w.heap.size, 0, none⟩) ys.length c) (nl := nl && ys.isEmpty)
     (by have : ys.isEmpty = false := by cases ys <;> simp at hyne ⊢
         simp [isNilSlice, this])
   exact this
theorem ok_append_count (hm : SimM P G F M nx w) (hid : G id = none) (hn : id < nx) {t tn e ty : TypeId} {kn kq : IntKind} {ti : TI} (ht : telem P t = some e) (htn : tint P tn = some kn) (hti : tinfo P e = some ti) {v u : Value} {nl : Bool} {n : Int}
  (hv : RV G F M w v (.sl nl [] .zer)) (hu : RV G F M w u (.sc (.int kq n))) (h0 : 0 < n) (hr : room n.toNat ti.bytes = true) (h2 : ti.zero.length = ti.size) (hs : 0 < ti.size) :
  OpOk P G F M nx w id ((do pure (Next.value (← Builtin.append_ #[t, tn] ty #[v, u])) : Sem Next).run P w) (.tl id n.toNat false) ((id, .arr ti.size (List.replicate n.toNat (zeroOf ti)) false) :: M) := by
 obtain ⟨va, rfl, hsp⟩ : ∃ va, v = .slice va 0 0 ∧ ∀ a, va = some a → a = a := by
  cases hv.inv_sl with
  | nil _ _ => exact ⟨none, rfl, fun a h => by cases h⟩
  | sz a _ _ => exact ⟨some a, rfl, fun _ _ => rfl⟩
  | sl b off c esz _ _ vs hc hcap hes hF hi =>
    rcases hcap with h | ⟨_, h⟩ | ⟨h, _⟩ | h
    ·cases h
    ·subst h; exact ⟨some ⟨b, off, none⟩, rfl, fun a h => by cases h; rfl⟩
    ·cases h
    ·cases h
 rw [hu.inv_sc]
 obtain ⟨i, d, z0, hi, hd, hz0, rfl, hone, _⟩ := tinfo_inv hti
 obtain ⟨r1, r2⟩ := room_le hr
 simp only at r1 r2 h2 hs ⊢
 obtain ⟨k, rfl⟩ : ∃ k : Nat, n = k := ⟨n.toNat, by omega⟩
 rw [Int.toNat_natCast] at r1 r2 ⊢
 have hun : P.underlying tn = some (.int kn) := by
  unfold tint at htn; split at htn
  ·cases htn; assumption
  ·cases htn
 have hold : (Builtin.firstCells i.size 0 (.slice va 0 0)).run P w.drew = .ok (([] : List Value).toArray) w.drew := by
  cases va <;> simp [Builtin.firstCells, loadCells, loadCellsFrom]
 have hb : Builtin.nextslicecap (0 + k) 0 * i.bytes ≤ 281474976710656 := by
  calc Builtin.nextslicecap (0 + k) 0 * i.bytes ≤ (2 * (0 + k)) * i.bytes := Nat.mul_le_mul_right _ (nextcap_le (by omega))
   _ = 2 * (k * i.bytes) := by rw [Nat.zero_add, Nat.mul_assoc]
   _ ≤ 281474976710656 := by omega
 have hrun := Go.Lib.run_append_grow_zeros (P := P) w t tn ty e i z0 kq kn (telem_inv ht) hun hi hz0 va 0 0 [] hold k (by omega) hs (by omega) (by omega) (by omega) hb
 rw [Nat.zero_add] at hrun
 have hge : k ≤ grownCap w k 0 e := grownCap_ge w k 0 e
 obtain ⟨c, hc⟩ : ∃ c, c = grownCap w k 0 e := ⟨_, rfl⟩
 rw [← hc] at hrun hge
 obtain ⟨cc, hcc⟩ : ∃ cc, cc = ([] : List Value).toArray ++ Builtin.zeroCells z0.cells k ++ Builtin.zeroCells z0.cells (c - k) := ⟨_, rfl⟩
 rw [← hcc] at hrun
 have hzs : z0.cells.size = i.size := by have := h2; simpa using this
 have D := (simM_drew (w' := drew1 w) hm (drew1_heap w) ⟨rfl, rfl, rfl, .refl⟩)
 have hrun' : (Builtin.append_ #[t, tn] ty #[.slice va 0 0, .int kq k]).run P w = .ok (.slice (some ⟨w.heap.size, 0, none⟩) k c) (pushW (drew1 w) (.cells cc e (0, 0))) := hrun
 refine OpOk.drew (w1 := drew1 w) hm rfl (OpOk.new D.1 hid hn (run_v hrun') (fun b hb => ?_) (fun S => ?_) ?_)
 ·simp only [blkOf] at hb
  split at hb
  ·cases hb
  ·cases hb; rfl
 ·have hrel := zeros_rel (G := upG G id (.slice (some ⟨w.heap.size, 0, none⟩) k c)) (F := F) (M := (id, .arr i.size (List.replicate k (zeroOf ⟨i.size, descAgg d, z0.cells.toList, i.bytes⟩)) false) :: M) (w := pushW (drew1 w) (.cells cc e (0, 0))) (ti := ⟨i.size, descAgg d, z0.cells.toList, i.bytes⟩) k h2 z0.cells rfl hone
  refine .arr0 ⟨w.heap.size, c, _, e, by rw [upG_self]; simp, by omega, pushW_new (drew1 w) _, by simpa using hge, ?_, hrel.2.1, fun j l hj hl => ?_, fun o h => ?_, fun hz => by cases hz⟩
  ·rw [hcc]
   simp only [Builtin.zeroCells, Array.size_append, List.size_toArray, List.length_nil, Array.size_map, Array.size_range, hzs]
   rw [Nat.zero_add, ← Nat.add_mul]; congr 1; omega
  ·obtain ⟨q, hq, h1c, hr⟩ := hrel.2.2 j l hj hl
   refine ⟨q, ?_, h1c, hr⟩
   rw [hcc, Array.getElem?_append_left]
   ·rw [← hq, ← Array.getElem?_toList]
    simp only [Array.empty_append, Builtin.zeroCells]
    rw [show k * z0.cells.size = k * i.size by rw [hzs]]
   ·have := (List.getElem?_eq_some_iff.1 hq).1
    simpa [Builtin.zeroCells, hzs] using this
  ·have := hm.inF _ _ h; omega
 ·have := tl_new (G := G) (F := F) (M := M) (w := pushW (drew1 w) (.cells cc e (0, 0))) (i := id) (es := List.replicate k (zeroOf ⟨i.size, descAgg d, z0.cells.toList, i.bytes⟩)) (esz := i.size) (fz := false) (h := .slice (some ⟨w.heap.size, 0, none⟩) k c) (nl := false) rfl
  simpa using this
theorem Imm.capUnk {v : Value} {nl : Bool} {es : List (List AV)} {cap : Cp} (h : Imm F w v (.sl nl es cap)) : Imm F w v (.sl nl es .unk) := by
 cases h with
 | nil _ _ => exact .nil _ (.inl rfl)
 | sz a _ _ => exact .sz a _ (.inl rfl)
 | sl b off c esz _ _ vs hc hcap hes hF hi => exact .sl b off _ esz es .unk vs hc (.inl rfl) hes hF hi
theorem ok_append_full (hm : SimM P G F M nx w) {t t' e e' ty : TypeId} {ti : TI} (ht : telem P t = some e) (ht' : telem P t' = some e') (hti : tinfo P e = some ti) {v u : Value} {nl : Bool} {es ys : List (List AV)} {y : AV}
  (hv : RV G F M w v (.sl nl es .full)) (hu : RV G F M w u y) (hy : elemsOf M y = some ys)
  (h2 : ti.zero.length = ti.size) (h3 : room (es.length + ys.length) ti.bytes = true) (h4 : ∀ i (h : i < ys.length), ys[i].length = ti.size) (h5 : ys.all AV.norefs = true) (h6 : ∀ i (h : i < es.length), es[i].length = ti.size) (h7 : es.all AV.norefs = true) :
  OpOk P G F M nx w id ((do pure (Next.value (← Builtin.append_ #[t, t'] ty #[v, u])) : Sem Next).run P w) (.sl (nl && ys.isEmpty) (es ++ ys) .unk) M := by
 obtain ⟨_, hlen, cy, hcy, hry⟩ := elems_cells hm hu hy h4
 have D := (simM_drew (w' := drew1 w) hm (drew1_heap w) ⟨rfl, rfl, rfl, .refl⟩)
 obtain ⟨va, vc, rfl, hnl, hcap⟩ : ∃ va vc, v = .slice va es.length vc ∧ nl = isNilSlice v ∧ vc = es.length := by
  cases hv.inv_sl with
  | nil _ _ => exact ⟨none, 0, rfl, rfl, rfl⟩
  | sz a _ _ => exact ⟨some a, 0, rfl, rfl, rfl⟩
  | sl b off c esz _ _ vs hc hcap hes hF hi =>
    rcases hcap with h | ⟨h, _⟩ | ⟨_, h⟩ | h
    ·cases h
    ·cases h
    ·exact ⟨_, c, rfl, rfl, h⟩
    ·cases h
 subst hcap
 by_cases hys : ys = []
 ·subst hys
  have hcy0 : cy = [] := by have := hry.1; simpa using this
  subst hcy0
  have hrun := run_append_place (w' := w) (ty := ty) ht ht' hti (base := va) (sLen := es.length) (sCap := es.length) hlen hcy (by simp) (fun a _ => by simp [storeCells]) (fun _ => rfl)
  refine OpOk.val hm (run_v hrun) (.imm ?_)
  have := hv.inv_sl.capUnk
  simpa using this
 ·have hyne : 0 < ys.length := List.length_pos_iff.2 hys
  have hu1 : RV G F M (drew1 w) u y := hu.step D.2 (fun _ _ => trivial)
  have hv1 : RV G F M (drew1 w) (.slice va es.length es.length) (.sl nl es .full) := hv.step D.2 (fun _ _ => trivial)
  obtain ⟨_, _, cy1, hcy1, hry1⟩ := elems_cells D.1 hu1 hy h4
  obtain ⟨_, _, cx1, hcx1, hrx1⟩ := elems_cells D.1 hv1 (ys := es) (size := ti.size) rfl h6
  obtain ⟨c, rest, hc, hrest, hrun⟩ := run_append_grow (ty := ty) ht ht' hti hlen hcx1 hcy1 (by omega) h3
  have hlen' : (es ++ ys).length = es.length + ys.length := by simp
  rw [← hlen'] at hrun hc hrest
  refine OpOk.drew (w1 := drew1 w) hm rfl (OpOk.row D.1 (run_v hrun) (.imm ?_))
  have S := (simM_row D.1 (.cells (cx1.toArray ++ cy1.toArray ++ rest) e (0, 0)) rfl).2
  have hrel := (hrx1.append hry1).step S
  have hne : ys.isEmpty = false := by cases ys <;> simp at hyne ⊢
  rw [hne, Bool.and_false]
  refine imm_row (pushW_new (drew1 w) _) (fun o => .inr rfl) hc (.inl rfl) hrel.2.1 (fun j l hj hl => ?_)
  obtain ⟨q, hq, h1c, hr⟩ := hrel.2.2 j l hj hl
  refine ⟨q, ?_, h1c, ?_⟩
  ·rw [Array.getElem?_append_left]
   ·simpa using hq
   ·have := (List.getElem?_eq_some_iff.1 hq).1
    simpa using this
  ·exact hr.imm_of (all_norefs (by rw [List.all_append, h7, h5]; rfl) j l hj hl)
theorem ok_append_fullO (hm : SimM P G F M nx w) (hid : G id = none) (hn : id < nx) {t t' e e' ty : TypeId} {ti : TI} (ht : telem P t = some e) (ht' : telem P t' = some e') (hti : tinfo P e = some ti) {v u : Value} {nl : Bool} {es ys : List (List AV)} {y : AV}
  (hv : RV G F M w v (.sl nl es .full)) (hu : RV G F M w u y) (hy : elemsOf M y = some ys)
  (h2 : ti.zero.length = ti.size) (h3 : room (es.length + ys.length) ti.bytes = true) (h4 : ∀ i (h : i < ys.length), ys[i].length = ti.size) (h5 : ys ≠ []) (h6 : ∀ i (h : i < es.length), es[i].length = ti.size) :
  OpOk P G F M nx w id ((do pure (Next.value (← Builtin.append_ #[t, t'] ty #[v, u])) : Sem Next).run P w) (.tl id (es ++ ys).length false) ((id, .arr ti.size (es ++ ys) false) :: M) := by
 obtain ⟨_, hlen, cy, hcy, hry⟩ := elems_cells hm hu hy h4
 have D := (simM_drew (w' := drew1 w) hm (drew1_heap w) ⟨rfl, rfl, rfl, .refl⟩)
 obtain ⟨va, vc, rfl, hnl, hcap⟩ : ∃ va vc, v = .slice va es.length vc ∧ nl = isNilSlice v ∧ vc = es.length := by
  cases hv.inv_sl with
  | nil _ _ => exact ⟨none, 0, rfl, rfl, rfl⟩
  | sz a _ _ => exact ⟨some a, 0, rfl, rfl, rfl⟩
  | sl b off c esz _ _ vs hc hcap hes hF hi =>
    rcases hcap with h | ⟨h, _⟩ | ⟨_, h⟩ | h
    ·cases h
    ·cases h
    ·exact ⟨_, c, rfl, rfl, h⟩
    ·cases h
 subst hcap
 have hyne : 0 < ys.length := List.length_pos_iff.2 h5
 have hu1 : RV G F M (drew1 w) u y := hu.step D.2 (fun _ _ => trivial)
 have hv1 : RV G F M (drew1 w) (.slice va es.length es.length) (.sl nl es .full) := hv.step D.2 (fun _ _ => trivial)
 obtain ⟨_, _, cy1, hcy1, hry1⟩ := elems_cells D.1 hu1 hy h4
 obtain ⟨_, _, cx1, hcx1, hrx1⟩ := elems_cells D.1 hv1 (ys := es) (size := ti.size) rfl h6
 obtain ⟨c, rest, hc, hrest, hrun⟩ := run_append_grow (ty := ty) ht ht' hti hlen hcx1 hcy1 (by omega) h3
 have hlen' : (es ++ ys).length = es.length + ys.length := by simp
 rw [← hlen'] at hrun hc hrest
 refine OpOk.drew (w1 := drew1 w) hm rfl (OpOk.new D.1 hid hn (run_v hrun) (fun b hb => ?_) (fun S => ?_) ?_)
 ·simp only [blkOf] at hb
  split at hb
  ·cases hb
  ·cases hb; rfl
 ·have hrel := (hrx1.append hry1).step S
  refine .arr0 ⟨w.heap.size, c, _, e, upG_self _ _ _, by omega, pushW_new (drew1 w) _, hc, ?_, hrel.2.1, fun j l hj hl => ?_, fun o h => ?_, fun hz => by cases hz⟩
  ·have e1 := hrx1.1
   have e2 := hry1.1
   simp only [Array.size_append, List.size_toArray, hrest h2, e1, e2]
   rw [← Nat.add_mul, ← Nat.add_mul]; congr 1; omega
  ·obtain ⟨q, hq, h1c, hr⟩ := hrel.2.2 j l hj hl
   refine ⟨q, ?_, h1c, hr⟩
   rw [Array.getElem?_append_left]
   ·simpa using hq
   ·have := (List.getElem?_eq_some_iff.1 hq).1
    simpa using this
  ·have := hm.inF _ _ h
   have e3 : (drew1 w).heap.size = w.heap.size := by rw [drew1_heap]
   omega
 ·have := tl_new (G := G) (F := F) (M := M) (w := pushW (drew1 w) (.cells (cx1.toArray ++ cy1.toArray ++ rest) e (0, 0))) (i := id) (es := es ++ ys) (esz := ti.size) (fz := false) (h := .slice (some ⟨w.heap.size, 0, none⟩) (es ++ ys).length c) (nl := false) rfl
  exact this
end
section
variable {P : Program} {w : World}
def mkOf (P : Program) (t : TypeId) (vs : List Value) : Value := if descAgg ((P.underlying t).getD .invalid) = true then .agg vs.toArray else vs.headD undef
theorem matchKinds_len : ∀ {ks : List Kd} {vs : List Value}, matchKinds ks vs = true → vs.length = ks.length
 | [], [], _ => rfl
 | k :: ks, v :: vs, h => by
   simp only [matchKinds, Bool.and_eq_true] at h
   simp [matchKinds_len h.2]
 | [], _ :: _, h => by simp [matchKinds] at h
 | _ :: _, [], h => by simp [matchKinds] at h
theorem matchKinds_append : ∀ {as bs : List Kd} {vs : List Value}, matchKinds (as ++ bs) vs = true → matchKinds as (vs.take as.length) = true ∧ matchKinds bs (vs.drop as.length) = true
 | [], bs, vs, h => by simpa [matchKinds] using h
 | a :: as, bs, [], h => by simp [matchKinds] at h
 | a :: as, bs, v :: vs, h => by
   simp only [List.cons_append, matchKinds, Bool.and_eq_true] at h
   obtain ⟨h1, h2⟩ := matchKinds_append h.2
   simp [matchKinds, h.1, h1, h2]
theorem eqCells_split : ∀ (n : Nat) (vs us : List Value), vs.length = us.length → eqCells vs us = (eqCells (vs.take n) (us.take n) && eqCells (vs.drop n) (us.drop n))
 | 0, vs, us, _ => by simp [eqCells]
 | n + 1, [], [], _ => by simp [eqCells]
 | n + 1, v :: vs, u :: us, h => by simp [eqCells, eqCells_split n vs us (by simpa using h), Bool.and_assoc]
 | n + 1, [], _ :: _, h => by simp at h
 | n + 1, _ :: _, [], h => by simp at h
theorem contig_kinds {g : TypeId → Option (List Kd)} (hg : ∀ t ks, g t = some ks → ks.length = P.cellsOf t) : ∀ (fs : List Field) (n m : Nat) (ks : List Kd), contig P fs n = some m → kindsF g fs = some ks → n + ks.length = m
 | [], n, m, ks, h1, h2 => by simp [contig] at h1; simp [kindsF] at h2; subst h2; simpa using h1
 | f :: fs, n, m, ks, h1, h2 => by
   simp only [contig] at h1
   split at h1
   ·simp only [kindsF] at h2
    split at h2
    ·rename_i a b ha hb
     cases h2
     have := contig_kinds hg fs _ m b h1 hb
     rw [List.length_append, hg _ _ ha]; omega
    ·cases h2
   ·cases h1
theorem kindsOf_len : ∀ (d : Nat) (t : TypeId) (ks : List Kd), kindsOf P d t = some ks → ks.length = P.cellsOf t
 | 0, _, _, h => by simp [kindsOf] at h
 | d + 1, t, ks, h => by
   simp only [kindsOf] at h
   split at h
   ·split at h
    ·split at h
     ·cases h; simp [*]
     ·cases h
    ·split at h
     ·cases h; simp [*]
     ·cases h
    ·split at h
     ·cases h; simp [*]
     ·cases h
    ·rename_i fs hfs
     split at h
     ·rename_i hc
      have := contig_kinds (kindsOf_len d) fs.toList 0 _ ks hc.2 h
      omega
     ·cases h
    ·rename_i n e hne
     split at h
     ·rename_i ks' hk
      split at h
      ·rename_i hn
       cases h
       rw [← hn, ← kindsOf_len d e ks' hk]; simp [List.length_flatten]
      ·cases h
     ·cases h
    ·cases h
   ·cases h
theorem kindsOf_info {d : Nat} {t : TypeId} {ks : List Kd} (h : kindsOf P d t = some ks) : ∃ i u, P.info? t = some i ∧ P.underlying t = some u := by
 cases d with
 | zero => simp [kindsOf] at h
 | succ d =>
   simp only [kindsOf] at h
   split at h
   ·rename_i hi
    obtain ⟨i, hi⟩ := Option.isSome_iff_exists.1 hi
    cases hu : P.underlying t with
    | none => simp [hu] at h
    | some u => exact ⟨i, u, hi, rfl⟩
   ·cases h
theorem run_part' {d : Nat} {t : TypeId} {ks : List Kd} (h : kindsOf P d t = some ks) (cs : List Value) (off : Nat) (hl : off + ks.length ≤ cs.length) (hk : matchKinds ks ((cs.drop off).take ks.length) = true) :
  (part t cs.toArray off).run P w = .ok (mkOf P t ((cs.drop off).take ks.length)) w := by
 obtain ⟨i, u, hi, hu⟩ := kindsOf_info h
 have hlen := kindsOf_len d t ks h
 have hag : (isAgg t).run P w = .ok (descAgg u) w := by
  unfold isAgg
  rw [Sem.run_bind, run_under hu, Result.andThen_ok]
  cases u <;> simp [descAgg]
 unfold part
 simp only [Sem.run_bind, hag, Result.andThen_ok, Sem.run_ite, mkOf, hu, Option.getD_some]
 by_cases ha : descAgg u = true
 ·simp only [ha, if_true, Sem.run_bind, sizeOf_any hi, Result.andThen_ok, Sem.run_pure, ← hlen]
  congr 2
  simp [List.extract_eq_take_drop]
 ·have ha' : descAgg u = false := by simpa using ha
  simp only [ha', Bool.false_eq_true, if_false]
  have h1 : ks.length = 1 := by
   cases d with
   | zero => simp [kindsOf] at h
   | succ d =>
     simp only [kindsOf, hi, Option.isSome_some, if_true, hu] at h
     cases u <;> simp only [descAgg, Bool.true_eq_false] at ha' <;> simp only at h <;> first
      | (split at h <;> cases h; rfl)
      | cases h
  rw [h1]
  have hlt : off < cs.length := by omega
  rw [List.getElem?_toArray, List.getElem?_eq_getElem hlt]
  simp only [Sem.run_pure]
  have e1 : List.take 1 (List.drop off cs) = [cs[off]] := by rw [List.drop_eq_getElem_cons hlt]; rfl
  rw [e1]; rfl
theorem run_eqFields {d k : Nat} (ih : ∀ (t : TypeId) (ks : List Kd), kindsOf P d t = some ks → ∀ vs us : List Value, matchKinds ks vs = true → matchKinds ks us = true → (Op.equalIn (k + d) t (mkOf P t vs) (mkOf P t us)).run P w = .ok (eqCells vs us) w) (vs us : List Value) (tot : Nat) (hv : vs.length = tot) (hu : us.length = tot) :
  ∀ (fs : List Field) (n : Nat) (ks : List Kd), contig P fs n = some tot → kindsF (kindsOf P d) fs = some ks → matchKinds ks (vs.drop n) = true → matchKinds ks (us.drop n) = true →
    (Op.eqFields (k + d) vs.toArray us.toArray fs).run P w = .ok (eqCells (vs.drop n) (us.drop n)) w
 | [], n, ks, h1, h2, h3, h4 => by
   simp [contig] at h1
   subst h1
   have e1 : vs.drop n = [] := List.drop_eq_nil_of_le (by omega)
   have e2 : us.drop n = [] := List.drop_eq_nil_of_le (by omega)
   rw [e1, e2]; simp [Op.eqFields, eqCells]
 | f :: fs, n, ks, h1, h2, h3, h4 => by
   simp only [contig] at h1
   split at h1
   ·rename_i hc
    obtain ⟨hoff, hname⟩ := hc
    simp only [kindsF] at h2
    split at h2
    ·rename_i a b ha hb
     cases h2
     have hla := kindsOf_len d _ _ ha
     have htot := contig_kinds (kindsOf_len d) fs _ tot b h1 hb
     obtain ⟨v1, v2⟩ := matchKinds_append h3
     obtain ⟨u1, u2⟩ := matchKinds_append h4
     have hp1 := run_part' (w := w) ha vs n (by omega) v1
     have hp2 := run_part' (w := w) ha us n (by omega) u1
     have he := ih f.type a ha _ _ v1 u1
     have hrest := run_eqFields ih vs us tot hv hu fs (n + P.cellsOf f.type) b h1 hb (by rw [← hla, ← List.drop_drop]; exact v2) (by rw [← hla, ← List.drop_drop]; exact u2)
     simp only [Op.eqFields, hname, if_true, ne_eq, not_false_eq_true, hoff, Sem.run_bind, hp1, Result.andThen_ok, hp2, he, Sem.run_ite, hrest, Sem.run_pure]
     rw [eqCells_split a.length (vs.drop n) (us.drop n) (by simp; omega), List.drop_drop, List.drop_drop, hla]
     cases eqCells (List.take (P.cellsOf f.type) (List.drop n vs)) (List.take (P.cellsOf f.type) (List.drop n us)) <;> simp
    ·cases h2
   ·cases h1
theorem matchKinds_one {k : Kd} {vs : List Value} (h : matchKinds [k] vs = true) : ∃ v, vs = [v] ∧ matchKind k v = true := by
 match vs, h with
 | [v], h => exact ⟨v, rfl, by simpa [matchKinds] using h⟩
 | [], h => simp [matchKinds] at h
 | _ :: _ :: _, h => simp [matchKinds] at h
theorem run_eqArr {d k : Nat} {e : TypeId} {ks : List Kd} {i0 : TypeInfo} (hi0 : P.info? e = some i0) (hks : kindsOf P d e = some ks)
  (ih : ∀ vs us : List Value, matchKinds ks vs = true → matchKinds ks us = true → (Op.equalIn (k + d) e (mkOf P e vs) (mkOf P e us)).run P w = .ok (eqCells vs us) w) (vs us : List Value) (hl : vs.length = us.length) :
  ∀ (m j : Nat), matchKinds (List.replicate m ks).flatten (vs.drop (j * ks.length)) = true → matchKinds (List.replicate m ks).flatten (us.drop (j * ks.length)) = true →
    ∃ r, (forIn (List.range' j m) ((none, ()) : Option Bool × PUnit) (fun i _ => do
     let a ← part e vs.toArray (i * P.cellsOf e)
     let b ← part e us.toArray (i * P.cellsOf e)
     let r ← Op.equalIn (k + d) e a b
     if (!r) = true then pure (ForInStep.done (some false, ())) else pure (ForInStep.yield (none, ()))) : Sem (Option Bool × PUnit)).run P w = .ok r w ∧ r.1.getD true = eqCells (vs.drop (j * ks.length)) (us.drop (j * ks.length))
 | 0, j, h1, h2 => by
   have e1 := matchKinds_len h1
   have e2 := matchKinds_len h2
   simp only [List.replicate_zero, List.flatten_nil, List.length_nil] at e1 e2
   refine ⟨(none, ()), by simp, ?_⟩
   rw [List.length_eq_zero_iff.1 e1, List.length_eq_zero_iff.1 e2]; rfl
 | m + 1, j, h1, h2 => by
   rw [List.replicate_succ, List.flatten_cons] at h1 h2
   obtain ⟨v1, v2⟩ := matchKinds_append h1
   obtain ⟨u1, u2⟩ := matchKinds_append h2
   have hla := kindsOf_len d _ _ hks
   have l1 := matchKinds_len h1
   have l2 := matchKinds_len h2
   simp only [List.length_append, List.length_drop] at l1 l2
   have hdr : j * ks.length + ks.length = (j + 1) * ks.length := by rw [Nat.add_mul, Nat.one_mul]
   have hbv : j * ks.length + ks.length ≤ vs.length := by
    rcases Nat.eq_zero_or_pos ks.length with h | h
    ·rw [h] at *; simp
    ·omega
   have hbu : j * ks.length + ks.length ≤ us.length := by omega
   rw [List.drop_drop, hdr] at v2 u2
   obtain ⟨r, hr, hr'⟩ := run_eqArr hi0 hks ih vs us hl m (j + 1) v2 u2
   have hp1 := run_part' (w := w) hks vs (j * ks.length) hbv v1
   have hp2 := run_part' (w := w) hks us (j * ks.length) hbu u1
   have he := ih _ _ v1 u1
   rw [eqCells_split ks.length (vs.drop (j * ks.length)) (us.drop (j * ks.length)) (by simp; omega), List.drop_drop, List.drop_drop, hdr]
   simp only [List.range'_succ, List.forIn_cons, Sem.run_bind, ← hla, hp1, Result.andThen_ok, hp2, he, Sem.run_ite]
   cases eqCells (List.take ks.length (List.drop (j * ks.length) vs)) (List.take ks.length (List.drop (j * ks.length) us))
   ·refine ⟨(some false, ()), by simp, by simp⟩
   ·simp only [← hla] at hr
    refine ⟨r, by simpa using hr, by simpa using hr'⟩
theorem run_equalIn_flat : ∀ (d : Nat) (t : TypeId) (ks : List Kd), kindsOf P d t = some ks → ∀ (k : Nat) (vs us : List Value), matchKinds ks vs = true → matchKinds ks us = true →
  (Op.equalIn (k + d) t (mkOf P t vs) (mkOf P t us)).run P w = .ok (eqCells vs us) w
 | 0, _, _, h => by simp [kindsOf] at h
 | d + 1, t, ks, h => by
   intro k vs us hv hu
   have IH := run_equalIn_flat d
   obtain ⟨i, un, hi, hun⟩ := kindsOf_info h
   have hlen := kindsOf_len _ _ _ h
   simp only [kindsOf, hi, Option.isSome_some, if_true, hun] at h
   have e0 : k + (d + 1) = (k + d) + 1 := rfl
   have scalar : ∀ kd, ks = [kd] → descAgg un = false → (∀ a b, matchKind kd a = true → matchKind kd b = true → (Op.equalIn ((k + d) + 1) t a b).run P w = .ok (eqCell a b) w) →
     (Op.equalIn (k + (d + 1)) t (mkOf P t vs) (mkOf P t us)).run P w = .ok (eqCells vs us) w := by
    rintro kd rfl ha hk
    obtain ⟨a, rfl, h1⟩ := matchKinds_one hv
    obtain ⟨b, rfl, h2⟩ := matchKinds_one hu
    simp only [mkOf, hun, Option.getD_some, ha, Bool.false_eq_true, if_false, List.headD_cons, e0, hk a b h1 h2, eqCells, Bool.and_true]
   cases un with
   | int q =>
     simp only at h
     split at h
     ·cases h
      refine scalar _ rfl rfl (fun a b h1 h2 => ?_)
      cases a <;> simp only [matchKind, Bool.false_eq_true] at h1
      cases b <;> simp only [matchKind, Bool.false_eq_true] at h2
      rename_i k1 n1 k2 n2
      have := eq_of_beq h1; have := eq_of_beq h2; subst_vars
      simp only [Op.equalIn, Sem.run_bind, run_under hun, Result.andThen_ok, if_true, Sem.run_pure, eqCell]
      congr 1
     ·cases h
   | bool =>
     simp only at h
     split at h
     ·cases h
      refine scalar _ rfl rfl (fun a b h1 h2 => ?_)
      cases a <;> simp only [matchKind, Bool.false_eq_true] at h1
      cases b <;> simp only [matchKind, Bool.false_eq_true] at h2
      simp only [Op.equalIn, Sem.run_bind, run_under hun, Result.andThen_ok, Sem.run_pure, eqCell]
     ·cases h
   | string =>
     simp only at h
     split at h
     ·cases h
      refine scalar _ rfl rfl (fun a b h1 h2 => ?_)
      cases a <;> simp only [matchKind, Bool.false_eq_true] at h1
      cases b <;> simp only [matchKind, Bool.false_eq_true] at h2
      simp only [Op.equalIn, Sem.run_bind, run_under hun, Result.andThen_ok, Sem.run_pure, eqCell, beq_toListBytes]
     ·cases h
   | struct fs =>
     simp only at h
     split at h
     ·rename_i hc
      have hf : P.fieldsOf t = fs := by simp [Program.fieldsOf, hun]
      simp only [mkOf, hun, Option.getD_some, descAgg, if_true, e0]
      rw [run_equalIn_struct w (k + d) t _ _ (by rw [hf]; exact hun) hc.1, hf]
      have l1 := matchKinds_len hv
      have l2 := matchKinds_len hu
      have := run_eqFields (w := w) (fun t ks h => IH t ks h k) vs us (P.cellsOf t) (by omega) (by omega) fs.toList 0 ks hc.2 h (by simpa using hv) (by simpa using hu)
      simpa using this
     ·cases h
   | array n e =>
     simp only at h
     split at h
     ·rename_i ks' hk
      split at h
      ·rename_i hn
       cases h
       obtain ⟨i0, _, hi0, _⟩ := kindsOf_info hk
       have l1 := matchKinds_len hv
       have l2 := matchKinds_len hu
       obtain ⟨r, hr, hr'⟩ := run_eqArr (w := w) hi0 hk (IH e ks' hk k) vs us (by omega) n 0 (by simpa using hv) (by simpa using hu)
       simp only [mkOf, hun, Option.getD_some, descAgg, if_true, e0, Op.equalIn, Sem.run_bind, run_under hun, Result.andThen_ok, sizeOf_any hi0]
       simp only [Std.Legacy.Range.forIn_eq_forIn_range', Std.Legacy.Range.size, Nat.sub_zero, Nat.add_one_sub_one, Nat.div_one]
       rw [show k.add d = k + d from rfl]
       rw [hr]
       obtain ⟨o, u⟩ := r
       simp only [Nat.zero_mul, List.drop_zero] at hr'
       cases o with
       | none => simp only [Result.andThen_ok, Sem.run_pure, ← hr']; rfl
       | some b => simp only [Result.andThen_ok, Sem.run_pure, ← hr']; rfl
      ·cases h
     ·cases h
   | _ => simp at h
end
section
variable {P : Program} {w : World}
theorem run_checkFields {d k : Nat} (em : Bool) (ih : ∀ (t : TypeId) (ks : List Kd), kindsOf P d t = some ks → ∀ vs : List Value, matchKinds ks vs = true → (Instr.checkKey em (k + d) t (mkOf P t vs)).run P w = .ok () w) (vs : List Value) (tot : Nat) (hv : vs.length = tot) :
  ∀ (fs : List Field) (n : Nat) (ks : List Kd), contig P fs n = some tot → kindsF (kindsOf P d) fs = some ks → matchKinds ks (vs.drop n) = true →
    (forIn fs PUnit.unit (fun f _ => do
     if f.name ≠ "_" then Instr.checkKey em (k + d) f.type (← part f.type vs.toArray f.offset)
     pure (ForInStep.yield PUnit.unit)) : Sem PUnit).run P w = .ok () w
 | [], n, ks, h1, h2, h3 => by simp
 | f :: fs, n, ks, h1, h2, h3 => by
   simp only [contig] at h1
   split at h1
   ·rename_i hc
    obtain ⟨hoff, hname⟩ := hc
    simp only [kindsF] at h2
    split at h2
    ·rename_i a b ha hb
     cases h2
     have hla := kindsOf_len d _ _ ha
     have htot := contig_kinds (kindsOf_len d) fs _ tot b h1 hb
     obtain ⟨v1, v2⟩ := matchKinds_append h3
     have hp1 := run_part' (w := w) ha vs n (by omega) v1
     have he := ih f.type a ha _ v1
     have hrest := run_checkFields em ih vs tot hv fs (n + P.cellsOf f.type) b h1 hb (by rw [← hla, ← List.drop_drop]; exact v2)
     simp only [List.forIn_cons, hname, if_true, ne_eq, not_false_eq_true, hoff, Sem.run_bind, hp1, Result.andThen_ok, he, Sem.run_pure]
     exact hrest
    ·cases h2
   ·cases h1
theorem run_checkArr {d k : Nat} (em : Bool) {e : TypeId} {ks : List Kd} {i0 : TypeInfo} (hi0 : P.info? e = some i0) (hks : kindsOf P d e = some ks)
  (ih : ∀ vs : List Value, matchKinds ks vs = true → (Instr.checkKey em (k + d) e (mkOf P e vs)).run P w = .ok () w) (vs : List Value) :
  ∀ (m j : Nat), matchKinds (List.replicate m ks).flatten (vs.drop (j * ks.length)) = true →
    (forIn (List.range' j m) PUnit.unit (fun i _ => do
     Instr.checkKey em (k + d) e (← part e vs.toArray (i * (← sizeOf e)))
     pure (ForInStep.yield PUnit.unit)) : Sem PUnit).run P w = .ok () w
 | 0, j, h1 => by simp
 | m + 1, j, h1 => by
   rw [List.replicate_succ, List.flatten_cons] at h1
   obtain ⟨v1, v2⟩ := matchKinds_append h1
   have hla := kindsOf_len d _ _ hks
   have l1 := matchKinds_len h1
   simp only [List.length_append, List.length_drop] at l1
   have hdr : j * ks.length + ks.length = (j + 1) * ks.length := by rw [Nat.add_mul, Nat.one_mul]
   have hbv : j * ks.length + ks.length ≤ vs.length ∨ ks.length = 0 := by omega
   rw [List.drop_drop, hdr] at v2
   have hr := run_checkArr em hi0 hks ih vs m (j + 1) v2
   have hp1 : (part e vs.toArray (j * ks.length)).run P w = .ok (mkOf P e ((vs.drop (j * ks.length)).take ks.length)) w := by
    rcases hbv with h | h
    ·exact run_part' (w := w) hks vs (j * ks.length) h v1
    ·exact run_part' (w := w) hks vs (j * ks.length) (by rw [h]; simp) v1
   have he := ih _ v1
   simp only [List.range'_succ, List.forIn_cons, Sem.run_bind, sizeOf_any hi0, Result.andThen_ok, ← hla, hp1, he, Sem.run_pure]
   exact hr
theorem run_checkKey_flat : ∀ (d : Nat) (t : TypeId) (ks : List Kd), kindsOf P d t = some ks → ∀ (em : Bool) (k : Nat) (vs : List Value), matchKinds ks vs = true →
  (Instr.checkKey em (k + d) t (mkOf P t vs)).run P w = .ok () w
 | 0, _, _, h => by simp [kindsOf] at h
 | d + 1, t, ks, h => by
   intro em k vs hv
   have IH := run_checkKey_flat d
   obtain ⟨i, un, hi, hun⟩ := kindsOf_info h
   have e0 : k + (d + 1) = (k + d) + 1 := rfl
   simp only [kindsOf, hi, Option.isSome_some, if_true, hun] at h
   cases un with
   | struct fs =>
     simp only at h
     split at h
     ·rename_i hc
      have l1 := matchKinds_len hv
      have hl : ks.length = P.cellsOf t := by
       have := contig_kinds (kindsOf_len d) fs.toList 0 _ ks hc.2 h; omega
      have := run_checkFields (w := w) em (fun t ks h => IH t ks h em k) vs (P.cellsOf t) (by omega) fs.toList 0 ks hc.2 h (by simpa using hv)
      simp only [mkOf, hun, Option.getD_some, descAgg, if_true, e0, Instr.checkKey, Sem.run_bind, run_under hun, Result.andThen_ok]
      rw [← Array.forIn_toList]
      simp at this ⊢
      rw [this]; rfl
     ·cases h
   | array n e =>
     simp only at h
     split at h
     ·rename_i ks' hk
      split at h
      ·rename_i hn
       cases h
       obtain ⟨i0, _, hi0, _⟩ := kindsOf_info hk
       have := run_checkArr (w := w) em hi0 hk (IH e ks' hk em k) vs n 0 (by simpa using hv)
       simp only [mkOf, hun, Option.getD_some, descAgg, if_true, e0, Instr.checkKey, Sem.run_bind, run_under hun, Result.andThen_ok]
       simp only [Std.Legacy.Range.forIn_eq_forIn_range', Std.Legacy.Range.size, Nat.sub_zero, Nat.add_one_sub_one, Nat.div_one]
       simp at this ⊢
       rw [this]; rfl
      ·cases h
     ·cases h
   | int q =>
     simp only at h; split at h
     ·cases h
      obtain ⟨a, rfl, h1⟩ := matchKinds_one hv
      simp only [mkOf, hun, Option.getD_some, descAgg, Bool.false_eq_true, if_false, List.headD_cons, e0, Instr.checkKey, Sem.run_bind, run_under hun, Result.andThen_ok]
      rfl
     ·cases h
   | bool =>
     simp only at h; split at h
     ·cases h
      obtain ⟨a, rfl, h1⟩ := matchKinds_one hv
      simp only [mkOf, hun, Option.getD_some, descAgg, Bool.false_eq_true, if_false, List.headD_cons, e0, Instr.checkKey, Sem.run_bind, run_under hun, Result.andThen_ok]
      rfl
     ·cases h
   | string =>
     simp only at h; split at h
     ·cases h
      obtain ⟨a, rfl, h1⟩ := matchKinds_one hv
      simp only [mkOf, hun, Option.getD_some, descAgg, Bool.false_eq_true, if_false, List.headD_cons, e0, Instr.checkKey, Sem.run_bind, run_under hun, Result.andThen_ok]
      rfl
     ·cases h
   | _ => simp at h
theorem isKey_inv {t : TypeId} {k : Value} (h : isKey P t k = true) : ∃ ks un, kindsOf P 8 t = some ks ∧ P.underlying t = some un ∧ matchKinds ks k.cells.toList = true ∧ k = mkOf P t k.cells.toList := by
 unfold isKey at h
 split at h
 ·rename_i ks un hks hun
  refine ⟨ks, un, hks, hun, ?_⟩
  cases k with
  | agg cs =>
    simp only [Bool.and_eq_true] at h
    exact ⟨h.2, by simp [mkOf, hun, h.1, Value.cells]⟩
  | _ =>
    simp only [Bool.and_eq_true, Bool.not_eq_true'] at h
    exact ⟨by simpa [Value.cells] using h.2, by simp [mkOf, hun, h.1, Value.cells]⟩
 ·cases h
theorem run_checkKey' {t : TypeId} {k : Value} (h : isKey P t k = true) (em : Bool) : (Instr.checkKey em 10000 t k).run P w = .ok () w := by
 obtain ⟨ks, un, hks, hun, hm, he⟩ := isKey_inv h
 rw [he]
 exact run_checkKey_flat 8 t ks hks em 9992 _ hm
theorem run_equal_key {t : TypeId} {a b : Value} (ha : isKey P t a = true) (hb : isKey P t b = true) : (Op.equal t a b).run P w = .ok (eqVal a b) w := by
 obtain ⟨ks, un, hks, hun, hm, he⟩ := isKey_inv ha
 obtain ⟨ks', un', hks', _, hm', he'⟩ := isKey_inv hb
 rw [hks] at hks'; cases hks'
 have := run_equalIn_flat (w := w) 8 t ks hks 9992 _ _ hm hm'
 rw [← he, ← he'] at this
 exact this
def efind : List MapEntry → Value → Nat → Option (Nat × Value)
 | [], _, _ => none
 | e :: es, k, i => if eqVal k e.key = true then some (i, e.val) else efind es k (i + 1)
theorem run_findAsking {t : TypeId} {k : Value} (hk : isKey P t k = true) : ∀ (es : List MapEntry) (i : Nat), (∀ e ∈ es, isKey P t e.key = true) → (Instr.findAsking t k es i).run P w = .ok (efind es k i) w
 | [], i, _ => by simp [Instr.findAsking, efind]
 | e :: es, i, h => by
   simp only [Instr.findAsking, Sem.run_bind, run_equal_key hk (h e (by simp)), Result.andThen_ok, Sem.run_ite, efind, run_findAsking hk es (i + 1) (fun x hx => h x (by simp [hx])), Sem.run_pure]
   split <;> rfl
theorem sameNow_eq {d : TypeDesc} {a b : Value} {r : Bool} (h : Instr.sameNow d a b = some r) : r = eqVal a b := by
 unfold Instr.sameNow at h
 split at h
 ·split at h
  ·cases h; simp [eqVal, Value.cells, eqCells, eqCell]; rfl
  ·cases h
 ·cases h; simp [eqVal, Value.cells, eqCells, eqCell, beq_toListBytes]
 ·cases h; simp [eqVal, Value.cells, eqCells, eqCell]
 ·cases h
theorem findNow_eq {d : TypeDesc} {k : Value} : ∀ (es : List MapEntry) (i : Nat) (r : Option (Nat × Value)), Instr.findNow d k es i = some r → r = efind es k i
 | [], i, r, h => by simp [Instr.findNow] at h; simp [efind, h]
 | e :: es, i, r, h => by
   simp only [Instr.findNow] at h
   split at h
   ·rename_i hs
    cases h
    rw [efind, if_pos (sameNow_eq hs).symm]
   ·rename_i hs
    rw [efind, if_neg (by rw [← sameNow_eq hs]; simp)]
    exact findNow_eq es (i + 1) r h
   ·cases h
theorem run_findKey {t : TypeId} {k : Value} (hk : isKey P t k = true) (es : List MapEntry) (h : ∀ e ∈ es, isKey P t e.key = true) : (Instr.findKey t k es).run P w = .ok (efind es k 0) w := by
 obtain ⟨ks, un, hks, hun, hm, he⟩ := isKey_inv hk
 simp only [Instr.findKey, Sem.run_bind, run_under hun, Result.andThen_ok]
 cases hf : Instr.findNow un k es 0 with
 | some r => simp [findNow_eq es 0 r hf]
 | none => simp only []; exact run_findAsking hk es 0 h
theorem eqCell_sameBits {a b : Value} (n : Nat) (k : Kd) (ha : matchKind k a = true) (hb : matchKind k b = true) (h : eqCell a b = true) : Instr.sameBits n a b = true := by
 cases a <;> cases b <;> cases k <;> simp only [matchKind, Bool.false_eq_true] at ha hb <;> simp only [eqCell, Bool.false_eq_true] at h <;> cases n <;> simp only [Instr.sameBits] <;> first
  | exact h
  | (have := eq_of_beq ha; have := eq_of_beq hb; subst_vars; simpa using h)
  | (rw [beq_toListBytes]; exact h)
theorem eqCells_sameBits (n : Nat) : ∀ (ks : List Kd) (vs us : List Value), matchKinds ks vs = true → matchKinds ks us = true → eqCells vs us = true → ((vs.zip us).all fun (x, y) => Instr.sameBits n x y) = true
 | [], vs, us, h1, h2, _ => by
   rw [List.length_eq_zero_iff.1 (matchKinds_len h1)]; simp
 | k :: ks, [], _, h1, _, _ => by simp [matchKinds] at h1
 | k :: ks, _ :: _, [], _, h2, _ => by simp [matchKinds] at h2
 | k :: ks, v :: vs, u :: us, h1, h2, h3 => by
   simp only [matchKinds, Bool.and_eq_true] at h1 h2
   simp only [eqCells, Bool.and_eq_true] at h3
   simp [eqCell_sameBits n k h1.1 h2.1 h3.1, eqCells_sameBits n ks vs us h1.2 h2.2 h3.2]
theorem run_keyThatStays {t : TypeId} {a b : Value} (ha : isKey P t a = true) (hb : isKey P t b = true) (h : eqVal a b = true) : (Instr.keyThatStays b a).run P w = .ok a w := by
 obtain ⟨ks, un, hks, hun, hm, he⟩ := isKey_inv ha
 obtain ⟨ks', un', hks', hun', hm', he'⟩ := isKey_inv hb
 rw [hks] at hks'; cases hks'
 rw [hun] at hun'; cases hun'
 have hsym : ∀ (vs us : List Value), eqCells vs us = true → eqCells us vs = true := by
  intro vs
  induction vs with
  | nil => intro us h; cases us <;> simp [eqCells] at h ⊢
  | cons v vs ih =>
    intro us h
    cases us with
    | nil => simp [eqCells] at h
    | cons u us =>
      simp only [eqCells, Bool.and_eq_true] at h ⊢
      refine ⟨?_, ih us h.2⟩
      have := h.1
      cases v <;> cases u <;> simp only [eqCell, Bool.false_eq_true] at this ⊢ <;> first | exact decide_eq_true (of_decide_eq_true this).symm | (rw [beq_iff_eq] at this ⊢; exact this.symm)
 have hs : Instr.sameBits 10000 b a = true := by
  have hc := hsym _ _ (show eqCells a.cells.toList b.cells.toList = true from h)
  by_cases hag : descAgg un = true
  ·have e1 : a = .agg a.cells.toList.toArray := by rw [he]; simp [mkOf, hun, hag, Value.cells]
   have e2 : b = .agg b.cells.toList.toArray := by rw [he']; simp [mkOf, hun, hag, Value.cells]
   have l1 := matchKinds_len hm
   have l2 := matchKinds_len hm'
   have := eqCells_sameBits 9999 ks _ _ hm' hm hc
   rw [e1, e2]
   simp only [Instr.sameBits, Bool.and_eq_true]
   exact ⟨by simp; simp at l1 l2; omega, by simpa using this⟩
  ·have hag' : descAgg un = false := by simpa using hag
   have h1 : ∃ k, ks = [k] := by
    obtain ⟨i, u, hi, hu⟩ := kindsOf_info hks
    rw [hun] at hu; cases hu
    simp only [kindsOf, hi, Option.isSome_some, if_true, hun] at hks
    cases un <;> simp only [descAgg, Bool.true_eq_false] at hag' <;> simp only at hks <;> first
     | (split at hks <;> cases hks; exact ⟨_, rfl⟩)
     | cases hks
   obtain ⟨k, rfl⟩ := h1
   obtain ⟨x, hx, hkx⟩ := matchKinds_one hm
   obtain ⟨y, hy, hky⟩ := matchKinds_one hm'
   rw [hx] at he hc
   rw [hy] at he' hc
   simp only [mkOf, hun, Option.getD_some, hag', Bool.false_eq_true, if_false, List.headD_cons] at he he'
   rw [he, he']
   simp only [eqCells, Bool.and_true] at hc
   exact eqCell_sameBits 10000 k hky hkx hc
 simp [Instr.keyThatStays, hs]
theorem run_zero_rv {G : Nat → Option Value} {F : Nat → Nat → Prop} {M : Mem} {t : TypeId} {ti : TI} (h : tinfo P t = some ti) : ∃ z, (zeroValue t).run P w = .ok z w ∧ RV G F M w z (mkv ti.agg (zeroOf ti)) := by
 obtain ⟨i, d, z, hi, hd, hz, rfl, hone, hag⟩ := tinfo_inv h
 refine ⟨z, by simp [zeroValue, run_tinfo hi, hz], ?_⟩
 refine mkv_rv (ti := ⟨i.size, descAgg d, z.cells.toList, i.bytes⟩) (vs := z.cells.toList) (by simp [zeroOf]) (fun i h1 h2 => .imm (Imm.zero (ti := ⟨_, descAgg d, z.cells.toList, _⟩) i h1 h2)) z (fun ha => ?_) (fun ha v hv => ?_)
 ·simp only at ha
  rw [ha] at hag
  cases z <;> simp [isAggV] at hag
  simp [Value.cells]
 ·simp only at ha hv
  rw [ha] at hag
  cases z <;> simp [isAggV] at hag <;> simpa [Value.cells] using hv
end
section
variable {P : Program} {G : Nat → Option Value} {F : Nat → Nat → Prop} {M : Mem} {w w' : World} {nx id : Nat} {x : AV}
def EfOk (P : Program) (G : Nat → Option Value) (F : Nat → Nat → Prop) (M : Mem) (nx : Nat) (w : World) (id : Nat) (run : Result Next) : Ef → Prop
 | .bad => True
 | .val ok v => ok = true → OpOk P G F M nx w id run v M
 | .new ok v ob => ok = true → OpOk P G F M nx w id run v ((id, ob) :: M)
 | .upd ok v i ob => ok = true → OpOk P G F M nx w id run v (mset M i ob)
 | .key ok v old ob => ok = true → OpOk P G F M nx w id run v ((id, ob) :: mdel M old)
theorem eqGuard_int {op : BinOp} {t : TypeId} {x y : Operand} {a b : Value} (h : ∀ cs ds, a = .agg cs → b = .agg ds → False) (h' : a = .nilIface → False) : (eqGuard op t x y a b).run P w = .ok () w := by
 cases op <;> cases a <;> first
  | (simp [eqGuard]; done)
  | exact (h' rfl).elim
  | (cases b <;> first | (simp [eqGuard]; done) | exact (h _ _ rfl rfl).elim)
def EfV (Q : AV → Prop) : Ef → Prop
 | .val ok v => ok = true → Q v
 | .bad => True
 | _ => False
theorem run_intBin {op : BinOp} {k : IntKind} {a b : Int} {t : TypeId} : EfV (fun v => ∃ u, (binOp op t (.int k a) (.int k b)).run P w = .ok u w ∧ v = .sc u) (intBin op k a b) := by
 have cmp : ∀ (u v : Bool), u = v → AV.sc (.bool u) = AV.sc (.bool v) := fun _ _ h => by rw [h]
 have quo : ∀ k, 0 ≤ a → 0 < b → (binOp .quo t (.int k a) (.int k b)).run P w = .ok (.int k (k.wrap (a / b))) w := fun k h1 h2 => by
  simp only [binOp, ne_eq, not_true_eq_false, if_false, Op.intDiv, show ¬ b = 0 by omega, Sem.run_pure, Int.tdiv_eq_ediv_of_nonneg h1]
 have rem : ∀ k, 0 ≤ a → 0 < b → (binOp .rem t (.int k a) (.int k b)).run P w = .ok (.int k (a % b)) w := fun k h1 h2 => by
  simp only [binOp, ne_eq, not_true_eq_false, if_false, Op.intDiv, show ¬ b = 0 by omega, Sem.run_pure, Int.tmod_eq_emod_of_nonneg h1]
 cases op
 case add => cases k <;> (intro h; refine ⟨_, by simp only [binOp, ne_eq, not_true_eq_false, if_false, Op.intArith, Sem.run_pure]; rfl, ?_⟩) <;> first | rfl | rw [wrap_in h]
 case sub => cases k <;> (intro h; refine ⟨_, by simp only [binOp, ne_eq, not_true_eq_false, if_false, Op.intArith, Sem.run_pure]; rfl, ?_⟩) <;> first | rfl | rw [wrap_in h]
 case mul => cases k <;> (intro h; refine ⟨_, by simp only [binOp, ne_eq, not_true_eq_false, if_false, Op.intArith, Sem.run_pure]; rfl, ?_⟩) <;> first | rfl | rw [wrap_in h]
 case quo =>
  cases k <;> (intro h; simp only [Bool.and_eq_true, decide_eq_true_eq] at h) <;> first
   | exact ⟨_, quo _ h.1 h.2, rfl⟩
   | exact ⟨_, quo _ h.1.1 h.1.2, by rw [wrap_in h.2]⟩
 case rem =>
  cases k <;> (intro h; simp only [Bool.and_eq_true, decide_eq_true_eq] at h) <;> exact ⟨_, rem _ h.1 h.2, rfl⟩
 case eql => exact fun h => ⟨.bool (a == b), by simp only [binOp, ne_eq, not_true_eq_false, if_false, Op.intCmp, Sem.run_pure], cmp _ _ (by rw [Bool.eq_iff_iff]; simp)⟩
 case neq => exact fun h => ⟨.bool (a != b), by simp only [binOp, ne_eq, not_true_eq_false, if_false, Op.intCmp, Sem.run_pure], cmp _ _ (by rw [Bool.eq_iff_iff]; simp)⟩
 case lss => exact fun h => ⟨_, by simp only [binOp, ne_eq, not_true_eq_false, if_false, Op.intCmp, Sem.run_pure], rfl⟩
 case leq => exact fun h => ⟨_, by simp only [binOp, ne_eq, not_true_eq_false, if_false, Op.intCmp, Sem.run_pure], rfl⟩
 case gtr => exact fun h => ⟨_, by simp only [binOp, ne_eq, not_true_eq_false, if_false, Op.intCmp, Sem.run_pure], rfl⟩
 case geq => exact fun h => ⟨_, by simp only [binOp, ne_eq, not_true_eq_false, if_false, Op.intCmp, Sem.run_pure], rfl⟩
 case and => exact fun _ => ⟨_, by simp only [binOp, ne_eq, not_true_eq_false, if_false, Op.intBits, Sem.run_pure]; rfl, rfl⟩
 case or => exact fun _ => ⟨_, by simp only [binOp, ne_eq, not_true_eq_false, if_false, Op.intBits, Sem.run_pure]; rfl, rfl⟩
 case xor => exact fun _ => ⟨_, by simp only [binOp, ne_eq, not_true_eq_false, if_false, Op.intBits, Sem.run_pure]; rfl, rfl⟩
 case andNot => exact fun _ => ⟨_, by simp only [binOp, ne_eq, not_true_eq_false, if_false, Op.intBits, Sem.run_pure]; rfl, rfl⟩
 all_goals trivial
theorem cellVal_inv {v : Value} {y : AV} {u : Value} (h : RV G F M w v y) (hc : cellVal y = some u) : v = u ∧ u.cells = #[u] := by
 unfold cellVal at hc
 split at hc
 ·cases hc; exact ⟨h.inv_sc, rfl⟩
 ·cases hc; exact ⟨h.inv_sc, rfl⟩
 ·cases hc; exact ⟨h.inv_sc, rfl⟩
 ·cases hc
theorem cellVals_inv : ∀ {vs : List Value} {ys : List AV} {us : List Value}, vs.length = ys.length → (∀ i (h1 : i < vs.length) (h2 : i < ys.length), RV G F M w vs[i] ys[i]) → cellVals ys = some us → vs = us
 | [], [], us, _, _, hc => by simp [cellVals] at hc; exact hc.symm ▸ rfl
 | v :: vs, y :: ys, us, hl, h, hc => by
   simp only [cellVals] at hc
   split at hc
   ·rename_i a as ha has
    cases hc
    have h0 := h 0 (by simp) (by simp)
    simp only [List.getElem_cons_zero] at h0
    have e := cellVals_inv (vs := vs) (ys := ys) (by simpa using hl) (fun i h1 h2 => h (i + 1) (by simpa using h1) (by simpa using h2)) has
    rw [(cellVal_inv h0 ha).1, e]
   ·cases hc
 | [], _ :: _, _, hl, _, _ => by simp at hl
 | _ :: _, [], _, hl, _, _ => by simp at hl
theorem toVal_inv {v : Value} {y : AV} {u : Value} (h : RV G F M w v y) (hc : toVal y = some u) : v = u := by
 unfold toVal at hc
 split at hc
 ·obtain ⟨vs, rfl, hl, hp⟩ := h.inv_ag
  simp only [Option.map_eq_some_iff] at hc
  obtain ⟨us, hus, rfl⟩ := hc
  rw [cellVals_inv hl hp hus]
 ·exact (cellVal_inv h hc).1
theorem eqKinds_inv {t : TypeId} {ks : List Kd} (h : eqKinds P t = some ks) : P.eqGuardType P.depth t = false ∧ descAgg ((P.underlying t).getD .invalid) = true ∧ kindsOf P 8 t = some ks := by
 unfold eqKinds at h
 split at h
 ·rename_i hc; exact ⟨hc.1, hc.2, h⟩
 ·cases h
theorem run_binEf {op : BinOp} {t : TypeId} {ox oy : Operand} {a b : Value} {x y : AV} (ha : RV G F M w a x) (hb : RV G F M w b y) : EfV (fun v => ∃ u, (do eqGuard op t ox oy a b; binOp op t a b : Sem Value).run P w = .ok u w ∧ v = .sc u) (binEf P op t x y) := by
 have fin : ∀ {v : AV} {u : Value}, (eqGuard op t ox oy a b).run P w = .ok () w → (binOp op t a b).run P w = .ok u w → v = .sc u → ∃ u, (do eqGuard op t ox oy a b; binOp op t a b : Sem Value).run P w = .ok u w ∧ v = .sc u := fun h1 h2 h3 =>
  ⟨_, by rw [Sem.run_bind, h1, Result.andThen_ok, h2], h3⟩
 unfold binEf
 split
 ·rename_i k p k' q
  have ea := ha.inv_sc
  have eb := hb.inv_sc
  subst ea; subst eb
  split
  ·rename_i hsh
   intro h
   have h0 : ¬ q < 0 := by have := of_decide_eq_true h; omega
   refine fin (eqGuard_int (fun _ _ h => by cases h) (fun h => by cases h)) (u := .int k (shiftOf op k p q.toNat)) ?_ rfl
   cases op <;> first
    | (cases hsh; done)
    | (simp only [binOp, Op.shift, if_neg h0, Sem.run_pure]; rfl)
  split
  ·rename_i hk
   subst hk
   have := run_intBin (P := P) (w := w) (op := op) (k := k) (a := p) (b := q) (t := t)
   generalize intBin op k p q = e at this ⊢
   cases e with
   | val ok v =>
     intro h
     obtain ⟨u, hu, hv⟩ := this h
     exact fin (eqGuard_int (fun _ _ h => by cases h) (fun h => by cases h)) hu hv
   | bad => trivial
   | _ => exact this.elim
  ·trivial
 ·rename_i p q
  have ea := ha.inv_sc
  have eb := hb.inv_sc
  subst ea; subst eb
  have hg : (eqGuard op t ox oy (.bool p) (.bool q)).run P w = .ok () w := eqGuard_int (fun _ _ h => by cases h) (fun h => by cases h)
  have ht : tbool P t = true → P.underlying t = some .bool := fun h => by
   unfold tbool at h; split at h
   ·assumption
   ·cases h
  cases op <;> first
   | trivial
   | exact fun h => fin hg (by simp only [binOp, Op.equal, Op.maxDepth, Sem.run_bind, run_equalIn_bool' w 9999 t p q (ht h), Result.andThen_ok, Sem.run_pure]) rfl
 ·rename_i p q
  have ea := ha.inv_sc
  have eb := hb.inv_sc
  subst ea; subst eb
  have hg : (eqGuard op t ox oy (.string p) (.string q)).run P w = .ok () w := eqGuard_int (fun _ _ h => by cases h) (fun h => by cases h)
  cases op <;> first
   | trivial
   | exact fun h => fin hg (by simp only [binOp, Op.stringOp, Sem.run_pure]; rfl) (by simp only [← beq_toListBytes]; try rfl)
 ·rename_i xs ys
  obtain ⟨vs, rfl, hvl, hvp⟩ := ha.inv_ag
  obtain ⟨us, rfl, hul, hup⟩ := hb.inv_ag
  split
  ·rename_i vs' us' hv hu
   have e1 := cellVals_inv hvl hvp hv
   have e2 := cellVals_inv hul hup hu
   subst e1; subst e2
   split
   ·rename_i ks hks
    obtain ⟨k1, k2, k3⟩ := eqKinds_inv hks
    have hg : (eqGuard op t ox oy (.agg vs.toArray) (.agg us.toArray)).run P w = .ok () w := run_eqGuard_agg w op t ox oy _ _ k1
    have he : matchKinds ks vs = true → matchKinds ks us = true → (Op.equalIn 10000 t (.agg vs.toArray) (.agg us.toArray)).run P w = .ok (eqCells vs us) w := fun h1 h2 => by
     have := run_equalIn_flat (w := w) 8 t ks k3 9992 vs us h1 h2
     simp only [mkOf, k2, if_true] at this
     exact this
    cases op <;> first
     | trivial
     | (intro h
        simp only [Bool.and_eq_true] at h
        exact fin hg (by simp only [run_eql_struct, run_neq_struct, he h.1 h.2, Result.andThen_ok]) rfl)
   ·trivial
  ·trivial
 ·trivial
end
section
variable {P : Program} {G : Nat → Option Value} {F : Nat → Nat → Prop} {w w' : World} {nx id : Nat} {fr : Fr} {st : St} {ρ : Operand → Value}
theorem od_rv (hρ : ∀ x, RV G F st.mem w (ρ x) (opnd fr st x)) (x : Operand) : RV G F st.mem w (ρ x) (od fr st true x) := (hρ x).unopt
theorem x_move (hm : SimM P G F st.mem nx w) (hρ : ∀ x, RV G F st.mem w (ρ x) (opnd fr st x)) {x : Operand} {dst ty pos after guard} :
  EfOk P G F st.mem nx w id ((execOp ρ ⟨dst, .move x, ty, pos, after, guard⟩).run P w) (xop P fr st true id ⟨dst, .move x, ty, pos, after, guard⟩) :=
 fun _ => .val hm rfl (od_rv hρ x)
theorem x_assign (hm : SimM P G F st.mem nx w) (hρ : ∀ x, RV G F st.mem w (ρ x) (opnd fr st x)) (hid : G id = none) (hn : id < nx) {x : Operand} {dst ty pos after guard} (hc : ∀ v, ρ (.const v) = v) :
  EfOk P G F st.mem nx w id ((execOp ρ ⟨dst, .assign x, ty, pos, after, guard⟩).run P w) (xop P fr st true id ⟨dst, .assign x, ty, pos, after, guard⟩) := by
 simp only [xop]
 split
 ·split
  ·exact fun _ => ok_nil hm hid hn (by simp [execOp, hc])
  ·trivial
 ·exact fun _ => .val hm rfl (od_rv hρ x)
theorem x_pick (hm : SimM P G F st.mem nx w) (hρ : ∀ x, RV G F st.mem w (ρ x) (opnd fr st x)) {c a b : Operand} {dst ty pos after guard} :
  EfOk P G F st.mem nx w id ((execOp ρ ⟨dst, .pick c a b, ty, pos, after, guard⟩).run P w) (xop P fr st true id ⟨dst, .pick c a b, ty, pos, after, guard⟩) := by
 simp only [xop]
 have hcv := (hρ c).unopt
 generalize unopt true (opnd fr st c) = C at hcv ⊢
 split
 ·rename_i k
  have e := hcv.inv_sc
  split
  ·rename_i p q hp hq
   intro _
   refine .val hm (u := .bool (if k = true then p else q)) ?_ (.imm (.sc _))
   simp only [execOp, e, asBool, Sem.run_bind, Sem.run_pure, Result.andThen_ok]
   cases k
   ·have := (hρ b).unopt
    simp only [Bool.true_and, Bool.not_false] at hq
    rw [hq] at this
    simp [this.inv_sc]
   ·have := (hρ a).unopt
    simp only [Bool.true_and] at hp
    rw [hp] at this
    simp [this.inv_sc]
  ·trivial
 ·trivial
theorem zero_cells {t : TypeId} {ti : TI} (ht : tinfo P t = some ti) {z : Value} (hzc : z.cells.toList = ti.zero) : z.cells.size = (zeroOf ti).length ∧ ∀ i (h1 : i < z.cells.size) (h2 : i < (zeroOf ti).length), RV G F st.mem w z.cells[i] (zeroOf ti)[i] := by
 refine ⟨by simp [zeroOf, ← hzc], fun i h1 h2 => ?_⟩
 have := Imm.zero (F := F) (w := w) (ti := ti) i (by simp [← hzc]; exact h1) h2
 simp only [← hzc, Array.getElem_toList] at this
 exact .imm this
theorem x_alloc (hm : SimM P G F st.mem nx w) (hid : G id = none) (hn : id < nx) {t : TypeId} {dst ty pos after guard} :
  EfOk P G F st.mem nx w id ((execOp ρ ⟨dst, .alloc t, ty, pos, after, guard⟩).run P w) (xop P fr st true id ⟨dst, .alloc t, ty, pos, after, guard⟩) := by
 simp only [xop]
 split
 ·rename_i ti ht
  intro _
  obtain ⟨z, hz, hzc⟩ := run_zero' (w := w) ht
  obtain ⟨h1, h2⟩ := zero_cells (G := G) (F := F) (st := st) (w := w) ht hzc
  exact ok_newVar hm hid hn (t := t) (v := z) h1 h2 (s := Instr.alloc t true (.tuple #[])) (by
   simp only [Instr.alloc, Sem.run_bind, hz, Result.andThen_ok, newVar, run_newRow, Sem.run_pure]; rfl)
 ·trivial
theorem x_box (hm : SimM P G F st.mem nx w) (hρ : ∀ x, RV G F st.mem w (ρ x) (opnd fr st x)) (hid : G id = none) (hn : id < nx) {t : TypeId} {x : Operand} {dst ty pos after guard} :
  EfOk P G F st.mem nx w id ((execOp ρ ⟨dst, .box t x, ty, pos, after, guard⟩).run P w) (xop P fr st true id ⟨dst, .box t x, ty, pos, after, guard⟩) := by
 simp only [xop]
 intro h
 obtain ⟨h1, h2, _⟩ := (od_rv hρ x).cells hm h
 exact ok_newVar hm hid hn (t := t) (v := ρ x) h1 h2 (s := Instr.box t (ρ x)) (by
  simp only [Instr.box, newVar, Sem.run_bind, run_newRow, Result.andThen_ok, Sem.run_pure]; rfl)
def pr (ρ : Operand → Value) (p : Nat × Operand) : Nat × Value := (p.1, ρ p.2)
theorem pr_eq (parts : Array (Nat × Operand)) : (parts.map fun (i, x) => (i, ρ x)) = parts.map (pr ρ) := rfl
theorem parts_rv (hρ : ∀ x, RV G F st.mem w (ρ x) (opnd fr st x)) (parts : Array (Nat × Operand)) (f : AV → AV) (hf : ∀ v y, RV G F st.mem w v y → RV G F st.mem w v (f y)) :
  (parts.map (pr ρ)).size = (parts.toList.map fun p => (p.1, f (od fr st true p.2))).length ∧
  ∀ i (h1 : i < (parts.map (pr ρ)).size) (h2 : i < (parts.toList.map fun p => (p.1, f (od fr st true p.2))).length),
    (parts.map (pr ρ))[i].1 = (parts.toList.map fun p => (p.1, f (od fr st true p.2)))[i].1 ∧ RV G F st.mem w (parts.map (pr ρ))[i].2 (parts.toList.map fun p => (p.1, f (od fr st true p.2)))[i].2 := by
 refine ⟨by simp, fun i h1 h2 => ⟨by simp [pr], ?_⟩⟩
 simp only [Array.getElem_map, List.getElem_map, Array.getElem_toList, pr]
 exact hf _ _ (od_rv hρ _)
theorem x_build (hm : SimM P G F st.mem nx w) (hρ : ∀ x, RV G F st.mem w (ρ x) (opnd fr st x)) {t : TypeId} {parts : Array (Nat × Operand)} {dst ty pos after guard} :
  EfOk P G F st.mem nx w id ((execOp ρ ⟨dst, .build t parts, ty, pos, after, guard⟩).run P w) (xop P fr st true id ⟨dst, .build t parts, ty, pos, after, guard⟩) := by
 simp only [xop]
 split
 ·rename_i ti ht
  split
  ·rename_i cs hcs
   intro h
   obtain ⟨h1, h2⟩ := parts_rv hρ parts (fun y => y) (fun _ _ h => h)
   obtain ⟨u, hu, hr⟩ := ok_build hm ht _ _ h1 h2 hcs h
   refine .val hm ?_ hr
   simp only [execOp, pr_eq]
   exact run_v hu
  ·trivial
 ·trivial
theorem x_buildSlice (hm : SimM P G F st.mem nx w) (hρ : ∀ x, RV G F st.mem w (ρ x) (opnd fr st x)) (hid : G id = none) (hn : id < nx) {t : TypeId} {n : Nat} {parts : Array (Nat × Operand)} {dst ty pos after guard} :
  EfOk P G F st.mem nx w id ((execOp ρ ⟨dst, .buildSlice t n parts, ty, pos, after, guard⟩).run P w) (xop P fr st true id ⟨dst, .buildSlice t n parts, ty, pos, after, guard⟩) := by
 simp only [xop]
 split
 ·rename_i e ht
  split
  ·rename_i ti hti
   split
   ·rename_i es hes
    split
    ·intro h
     simp only [Bool.and_eq_true, decide_eq_true_eq] at h
     obtain ⟨h1, h2⟩ := parts_rv hρ parts (snap st.mem) (fun _ _ h => h.snap hm)
     simp only [execOp, pr_eq]
     exact ok_buildSliceO hm ht hti _ _ h1 h2 hes h.1 h.2 hid hn
    intro h
    simp only [Bool.and_eq_true, decide_eq_true_eq] at h
    obtain ⟨h1, h2⟩ := parts_rv hρ parts (snap st.mem) (fun _ _ h => h.snap hm)
    simp only [execOp, pr_eq]
    refine ok_buildSlice hm ht hti _ _ h1 h2 hes h.1.1 h.1.2 h.2 ?_
    split
    ·exact .inl ⟨rfl, by assumption⟩
    ·exact .inr rfl
   ·trivial
  ·trivial
 ·trivial
theorem x_load (hm : SimM P G F st.mem nx w) (hρ : ∀ x, RV G F st.mem w (ρ x) (opnd fr st x)) {t : TypeId} {x : Operand} {dst ty pos after guard} :
  EfOk P G F st.mem nx w id ((execOp ρ ⟨dst, .load t x, ty, pos, after, guard⟩).run P w) (xop P fr st true id ⟨dst, .load t x, ty, pos, after, guard⟩) := by
 simp only [xop]
 split
 ·rename_i ti ht
  have hx := od_rv hρ x
  generalize od fr st true x = X at hx ⊢
  split
  ·split
   ·rename_i ho
    intro h
    simp only [Bool.and_eq_true, decide_eq_true_eq, Bool.or_eq_true] at h
    obtain ⟨u, hu, hr⟩ := ok_load_rf hm ht hx ho h.1 h.2
    exact .val hm (run_v hu) hr
   ·trivial
  ·intro h
   simp only [Bool.and_eq_true, decide_eq_true_eq, Bool.or_eq_true] at h
   obtain ⟨u, hu, hr⟩ := ok_load_ia ht hx h.1 h.2
   exact .val hm (run_v hu) hr
  ·split
   ·rename_i ho
    split
    ·rename_i hc
     intro h
     simp only [Bool.and_eq_true, decide_eq_true_eq, Bool.or_eq_true] at h
     obtain ⟨u, hu, hr⟩ := ok_load_ea hm ht hx ho hc h.1.1 h.1.2 h.2
     exact .val hm (run_v hu) hr
    ·trivial
   ·trivial
  ·trivial
 ·trivial
theorem x_store (hm : SimM P G F st.mem nx w) (hρ : ∀ x, RV G F st.mem w (ρ x) (opnd fr st x)) {t : TypeId} {a x : Operand} {dst ty pos after guard} :
  EfOk P G F st.mem nx w id ((execOp ρ ⟨dst, .store t a x, ty, pos, after, guard⟩).run P w) (xop P fr st true id ⟨dst, .store t a x, ty, pos, after, guard⟩) := by
 simp only [xop]
 split
 ·rename_i ti ht
  have hx := od_rv hρ x
  have ha := od_rv hρ a
  generalize od fr st true x = X at hx ⊢
  generalize od fr st true a = A at ha ⊢
  split
  ·split
   ·rename_i ho
    intro h
    simp only [Bool.and_eq_true, decide_eq_true_eq] at h
    exact ok_store_rf hm ht ha ho hx h.1.1 h.1.2 h.2
   ·trivial
  ·split
   ·rename_i ho
    split
    ·rename_i hc
     intro h
     simp only [Bool.and_eq_true, decide_eq_true_eq, Bool.not_eq_true'] at h
     obtain ⟨⟨⟨⟨h0, h1⟩, h2⟩, h3⟩, h4⟩ := h
     subst h0
     exact ok_store_ea hm ht ha ho hc h1 (hx.snap hm) h2 h3 h4
    ·trivial
   ·trivial
  ·trivial
 ·trivial
theorem x_fieldAddr (hm : SimM P G F st.mem nx w) (hρ : ∀ x, RV G F st.mem w (ρ x) (opnd fr st x)) {t : TypeId} {x : Operand} {f : Nat} {dst ty pos after guard} :
  EfOk P G F st.mem nx w id ((execOp ρ ⟨dst, .fieldAddr t x f, ty, pos, after, guard⟩).run P w) (xop P fr st true id ⟨dst, .fieldAddr t x f, ty, pos, after, guard⟩) := by
 simp only [xop]
 split
 ·rename_i off ft ht
  have hx := od_rv hρ x
  generalize od fr st true x = X at hx ⊢
  split
  ·intro h
   obtain ⟨b, hG, e⟩ := hx.inv_rf
   exact .val hm (run_v (by rw [e]; exact ok_field ht (by simpa using h))) (.rf _ _ b hG)
  ·intro h
   rename_i cs
   obtain ⟨b, o, e, hF, vs, hi⟩ : ∃ b o, ρ x = .pointer (some ⟨b, o, none⟩) ∧ ∃ vs : Nat → Value, (∀ j, j < cs.length → F b (o + j) ∧ w.cell? ⟨b, o + j, none⟩ = some (vs j)) ∧ ∀ j (h : j < cs.length), Imm F w (vs j) cs[j] := by
    have := hx.inv_ia
    generalize ρ x = v at this ⊢
    cases this with
    | ia b o _ vs hF hi => exact ⟨b, o, rfl, vs, hF, hi⟩
   refine .val hm (run_v (by rw [e]; exact ok_field ht (by simpa using h))) (.imm (.ia b (o + off) _ (fun j => hF (off + j)) (fun j hj => ?_) (fun j hj => ?_)))
   ·simp only [List.length_drop] at hj
    have := vs (off + j) (by omega)
    rw [Nat.add_assoc]; exact this
   ·simp only [List.length_drop] at hj
    have := hi (off + j) (by omega)
    simpa using this
  ·rename_i i n k o
   split
   ·rename_i esz es fz ho
    intro h
    simp only [Bool.and_eq_true, decide_eq_true_eq] at h
    obtain ⟨hG, hh⟩ := hx.inv_ea
    obtain ⟨hk, b, ko, c, h1, h2, e⟩ := (hh _ _ _ ho).2 h.2
    refine .val hm (run_v (by rw [e]; exact ok_field ht h.1)) (.ea i n k (o + off) _ hG (fun esz' es' fz' ho' => ?_))
    rw [ho] at ho'; cases ho'
    exact ⟨by omega, fun _ => ⟨hk, b, ko, c, h1, h2, by rw [Nat.add_assoc, Nat.add_assoc]⟩⟩
   ·trivial
  ·trivial
 ·trivial
theorem ia_inv {v : Value} {cs : List AV} (h : RV G F st.mem w v (.ia cs)) : ∃ b o, v = .pointer (some ⟨b, o, none⟩) ∧ ∃ vs : Nat → Value, (∀ j, j < cs.length → F b (o + j) ∧ w.cell? ⟨b, o + j, none⟩ = some (vs j)) ∧ ∀ j (h : j < cs.length), Imm F w (vs j) cs[j] := by
 cases h.inv_ia with
 | ia b o _ vs hF hi => exact ⟨b, o, rfl, vs, hF, hi⟩
theorem ia_drop {b o : Nat} {cs : List AV} {vs : Nat → Value} (hF : ∀ j, j < cs.length → F b (o + j) ∧ w.cell? ⟨b, o + j, none⟩ = some (vs j)) (hi : ∀ j (h : j < cs.length), Imm F w (vs j) cs[j]) (n : Nat) :
  Imm F w (.pointer (some ⟨b, o + n, none⟩)) (.ia (cs.drop n)) := by
 refine .ia b (o + n) _ (fun j => vs (n + j)) (fun j hj => ?_) (fun j hj => ?_)
 ·simp only [List.length_drop] at hj
  have := hF (n + j) (by omega)
  rw [Nat.add_assoc]; exact this
 ·simp only [List.length_drop] at hj
  have := hi (n + j) (by omega)
  simpa using this
theorem info_size {e : TypeId} (h : ¬ tinf P e = false) : (sizeOf e).run P w = .ok (P.cellsOf e) w := by
 unfold tinf at h
 cases hi : P.info? e with
 | none => simp [hi] at h
 | some i => exact sizeOf_any hi
theorem x_indexAddr (hm : SimM P G F st.mem nx w) (hρ : ∀ x, RV G F st.mem w (ρ x) (opnd fr st x)) {t : TypeId} {x ix : Operand} {dst ty pos after guard} :
  EfOk P G F st.mem nx w id ((execOp ρ ⟨dst, .indexAddr t x ix, ty, pos, after, guard⟩).run P w) (xop P fr st true id ⟨dst, .indexAddr t x ix, ty, pos, after, guard⟩) := by
 simp only [xop]
 have hi := od_rv hρ ix
 have hx := od_rv hρ x
 generalize od fr st true ix = I at hi ⊢
 generalize od fr st true x = X at hx ⊢
 split
 ·rename_i k i
  have ei := hi.inv_sc
  split
  ·rename_i e ht
   split
   ·trivial
   ·rename_i hinf
    have hs := info_size (w := w) hinf
    split
    ·rename_i nl es cap
     split
     ·rename_i c hc
      intro h
      simp only [Bool.and_eq_true, decide_eq_true_eq] at h
      obtain ⟨hlt, hcc⟩ := List.getElem?_eq_some_iff.1 hc
      have hsl := hx.inv_sl
      generalize hv : ρ x = v at hsl
      cases hsl with
      | nil => simp at hlt
      | sz => simp at hlt
      | sl b off cp esz _ _ vs hcl hcap hes hF hii =>
        have hesz : esz = P.cellsOf e := by rw [← h.2, ← hcc]; exact (hes _ hlt).symm
        subst hesz
        refine .val hm (run_v (by rw [hv, ei]; exact run_indexAt_slice ht hs h.1 hlt)) (.imm (.ia b (off + i.toNat * P.cellsOf e) c (fun j => vs i.toNat j) (fun j hj => ?_) (fun j hj => ?_)))
        ·have := hF i.toNat j hlt (by omega)
         exact ⟨this.1, this.2.1⟩
        ·subst hcc
         exact hii i.toNat j hlt hj
     ·trivial
    ·rename_i k' n nl
     split
     ·rename_i esz es fz ho
      intro h
      simp only [Bool.and_eq_true, decide_eq_true_eq] at h
      obtain ⟨⟨⟨h1, h2⟩, h3⟩, h4⟩ := h
      obtain ⟨hG, hnl, va, vc, hv, hcase⟩ := tl_handle hm hx ho h3
      rcases hcase with ⟨h0, _⟩ | ⟨b, ko, cc, e0, hva, k2, _⟩
      ·subst h0; simp at h2
      ·subst hva
       refine .val hm (run_v (by rw [hv, ei]; exact run_indexAt_slice ht hs h1 h2)) (.ea k' n i.toNat 0 _ (by rw [hG]; simp) (fun esz' es' fz' ho' => ?_))
       rw [ho] at ho'; cases ho'
       exact ⟨by omega, fun _ => ⟨by omega, b, ko, vc, by rw [hG, hv, h3], k2, by rw [h4]; simp⟩⟩
     ·trivial
    ·rename_i k' n off len cap
     split
     ·rename_i esz es fz ho
      intro h
      simp only [Bool.and_eq_true, decide_eq_true_eq] at h
      obtain ⟨⟨⟨h1, h2⟩, h3⟩, h4⟩ := h
      obtain ⟨hG0, hh⟩ := hx.inv_tv
      obtain ⟨hol, b, ko, c, hG, hc0, c', hv, hlc, _⟩ := (hh _ _ _ ho).2 h3
      replace hc0 : c ≠ 0 := hc0.resolve_right fun h => by omega
      refine .val hm (run_v (by rw [hv, ei]; exact run_indexAt_slice ht hs h1 h2)) (.ea k' n (off + i.toNat) 0 _ hG0 (fun esz' es' fz' ho' => ?_))
      rw [ho] at ho'; cases ho'
      exact ⟨by omega, fun _ => ⟨by omega, b, ko, c, hG, hc0, by rw [h4]; simp [Nat.add_mul, Nat.add_assoc]⟩⟩
     ·trivial
    ·trivial
  ·split
   ·rename_i n e ht
    split
    ·trivial
    ·rename_i hinf
     have hs := info_size (w := w) hinf
     split
     ·rename_i k' off
      intro h
      simp only [Bool.and_eq_true, decide_eq_true_eq] at h
      obtain ⟨b, hG, hv⟩ := hx.inv_rf
      exact .val hm (run_v (by rw [hv, ei]; exact run_indexAt_arr ht hs h.1 h.2)) (.rf _ _ b hG)
     ·rename_i cs
      intro h
      simp only [Bool.and_eq_true, decide_eq_true_eq] at h
      obtain ⟨b, o, hv, vs, hF, hii⟩ := ia_inv hx
      exact .val hm (run_v (by rw [hv, ei]; exact run_indexAt_arr ht hs h.1 h.2)) (.imm (ia_drop hF hii _))
     ·rename_i k' m j off
      split
      ·rename_i esz es fz ho
       intro h
       simp only [Bool.and_eq_true, decide_eq_true_eq] at h
       obtain ⟨hG, hh⟩ := hx.inv_ea
       obtain ⟨hk, b, ko, c, h1, h2, hv⟩ := (hh _ _ _ ho).2 h.2
       refine .val hm (run_v (by rw [hv, ei]; exact run_indexAt_arr ht hs h.1.1 h.1.2)) (.ea k' m j _ _ hG (fun esz' es' fz' ho' => ?_))
       rw [ho] at ho'; cases ho'
       exact ⟨by omega, fun _ => ⟨hk, b, ko, c, h1, h2, by rw [Nat.add_assoc, Nat.add_assoc]⟩⟩
      ·trivial
     ·trivial
   ·trivial
 ·trivial
end
section
variable {P : Program} {G : Nat → Option Value} {F : Nat → Nat → Prop} {w w' : World} {nx id : Nat} {fr : Fr} {st : St} {ρ : Operand → Value}
theorem run_part_rv {t : TypeId} {ti : TI} (ht : tinfo P t = some ti) {vs : List Value} {cs : List AV} (hl : vs.length = cs.length) (hp : ∀ i (h1 : i < vs.length) (h2 : i < cs.length), RV G F st.mem w vs[i] cs[i]) {off : Nat} (h1 : off + ti.size ≤ cs.length) (h2 : ti.agg = true ∨ ti.size = 1) :
  ∃ u, (part t vs.toArray off).run P w = .ok u w ∧ RV G F st.mem w u (mkv ti.agg ((cs.drop off).take ti.size)) := by
 have hlen : ((vs.drop off).take ti.size).length = ((cs.drop off).take ti.size).length := by simp; omega
 have hrv : ∀ i (h1 : i < ((vs.drop off).take ti.size).length) (h2 : i < ((cs.drop off).take ti.size).length), RV G F st.mem w ((vs.drop off).take ti.size)[i] ((cs.drop off).take ti.size)[i] := fun i a b => by
  simp only [List.getElem_take, List.getElem_drop]
  exact hp _ _ _
 unfold part
 simp only [Sem.run_bind, run_isAgg' ht, Result.andThen_ok, Sem.run_ite]
 cases ha : ti.agg with
 | true =>
   refine ⟨.agg ((vs.drop off).take ti.size).toArray, ?_, ?_⟩
   ·simp only [if_true, Sem.run_bind, run_sizeOf' ht, Result.andThen_ok, Sem.run_pure]
    congr 2
    simp [List.extract_eq_take_drop]
   ·rw [← ha]; exact mkv_rv hlen hrv _ (fun _ => rfl) (fun h => by rw [ha] at h; cases h)
 | false =>
   have hs : ti.size = 1 := by
    rcases h2 with h | h
    ·rw [ha] at h; cases h
    ·exact h
   have hlt : off < vs.length := by omega
   refine ⟨vs[off], ?_, ?_⟩
   ·simp only [Bool.false_eq_true, if_false, List.getElem?_toArray, List.getElem?_eq_getElem hlt, Sem.run_pure]
   ·rw [← ha]
    refine mkv_rv hlen hrv _ (fun h => by rw [ha] at h; cases h) (fun _ v hv => ?_)
    rw [hs] at hv
    have e1 : List.take 1 (List.drop off vs) = [vs[off]] := by rw [List.drop_eq_getElem_cons hlt]; rfl
    rw [e1] at hv
    simpa using hv
theorem x_field (hm : SimM P G F st.mem nx w) (hρ : ∀ x, RV G F st.mem w (ρ x) (opnd fr st x)) {t : TypeId} {x : Operand} {f : Nat} {dst ty pos after guard} :
  EfOk P G F st.mem nx w id ((execOp ρ ⟨dst, .field t x f, ty, pos, after, guard⟩).run P w) (xop P fr st true id ⟨dst, .field t x f, ty, pos, after, guard⟩) := by
 simp only [xop]
 split
 ·rename_i off ft ht
  have hx := od_rv hρ x
  generalize od fr st true x = X at hx ⊢
  split
  ·rename_i ti cs hti
   intro h
   simp only [Bool.and_eq_true, decide_eq_true_eq, Bool.or_eq_true] at h
   obtain ⟨vs, hv, hl, hp⟩ := hx.inv_ag
   obtain ⟨u, hu, hr⟩ := run_part_rv hti hl hp h.1 h.2
   unfold tfield at ht
   split at ht
   ·rename_i fs hfs
    cases hf : fs[f]? with
    | none => simp [hf] at ht
    | some fd =>
      simp [hf] at ht
      obtain ⟨rfl, rfl⟩ := ht
      refine .val hm (run_v (u := u) ?_) hr
      simp only [Instr.field, Sem.run_bind, run_under hfs, Result.andThen_ok, hf, hv, asAgg, Sem.run_pure, hu]
   ·cases ht
  ·trivial
 ·trivial
theorem x_index (hm : SimM P G F st.mem nx w) (hρ : ∀ x, RV G F st.mem w (ρ x) (opnd fr st x)) {t : TypeId} {x ix : Operand} {dst ty pos after guard} :
  EfOk P G F st.mem nx w id ((execOp ρ ⟨dst, .index t x ix, ty, pos, after, guard⟩).run P w) (xop P fr st true id ⟨dst, .index t x ix, ty, pos, after, guard⟩) := by
 simp only [xop]
 have hi := od_rv hρ ix
 have hx := od_rv hρ x
 generalize od fr st true ix = I at hi ⊢
 generalize od fr st true x = X at hx ⊢
 split
 ·rename_i k i
  have ei := hi.inv_sc
  split
  ·rename_i n e ht
   split
   ·rename_i ti cs hti
    intro h
    simp only [Bool.and_eq_true, decide_eq_true_eq, Bool.or_eq_true] at h
    obtain ⟨⟨⟨h1, h2⟩, h3⟩, h4⟩ := h
    obtain ⟨vs, hv, hl, hp⟩ := hx.inv_ag
    obtain ⟨u, hu, hr⟩ := run_part_rv hti hl hp h3 h4
    have hun := tarr_inv ht
    refine .val hm (run_v (u := u) ?_) hr
    have h5 : i < (n : Int) := by omega
    simp only [Instr.index, ei, asIntOf, Sem.run_bind, Sem.run_pure, Result.andThen_ok, run_under hun, hv, Sem.run_ite, h1, h5, and_self, if_true, run_sizeOf' hti, hu]
   ·trivial
  ·trivial
 ·trivial
theorem x_unOp (hm : SimM P G F st.mem nx w) (hρ : ∀ x, RV G F st.mem w (ρ x) (opnd fr st x)) {op : UnOp} {t : TypeId} {x : Operand} {dst ty pos after guard} :
  EfOk P G F st.mem nx w id ((execOp ρ ⟨dst, .unOp op t x, ty, pos, after, guard⟩).run P w) (xop P fr st true id ⟨dst, .unOp op t x, ty, pos, after, guard⟩) := by
 simp only [xop]
 have hx := od_rv hρ x
 generalize od fr st true x = X at hx ⊢
 split
 ·exact fun _ => .val hm (run_v (by rw [hx.inv_sc]; simp [Op.unary])) (.imm (.sc _))
 ·exact fun h => .val hm (run_v (by rw [hx.inv_sc]; simp only [Op.unary, Op.intArith, Sem.run_pure, Int.zero_sub, wrap_in h])) (.imm (.sc _))
 ·trivial
theorem x_convert (hm : SimM P G F st.mem nx w) (hρ : ∀ x, RV G F st.mem w (ρ x) (opnd fr st x)) {s d : TypeId} {x : Operand} {dst ty pos after guard} :
  EfOk P G F st.mem nx w id ((execOp ρ ⟨dst, .convert s d x, ty, pos, after, guard⟩).run P w) (xop P fr st true id ⟨dst, .convert s d x, ty, pos, after, guard⟩) := by
 simp only [xop]
 have hx := od_rv hρ x
 generalize od fr st true x = X at hx ⊢
 split
 ·trivial
 rename_i hks
 obtain ⟨us, hs⟩ : ∃ u, P.underlying s = some u := by
  cases hu : P.underlying s with
  | none => simp [tknown, hu] at hks
  | some u => exact ⟨u, rfl⟩
 have inv : ∀ k, tint P d = some k → P.underlying d = some (.int k) := fun k h => by
  unfold tint at h; split at h
  ·cases h; assumption
  ·cases h
 split
 ·rename_i k n hk
  exact fun h => .val hm (run_v (by rw [hx.inv_sc]; simp only [convert, Sem.run_bind, run_under hs, run_under (inv _ hk), Result.andThen_ok, Conv.intToInt, Sem.run_pure, wrap_in h])) (.imm (.sc _))
 ·rename_i k k' n _ hk
  exact fun h => .val hm (run_v (by rw [hx.inv_sc]; simp only [convert, Sem.run_bind, run_under hs, run_under (inv _ hk), Result.andThen_ok, Conv.intToInt, Sem.run_pure])) (.imm (.sc _))
 ·trivial
theorem x_makeFunc (hm : SimM P G F st.mem nx w) (hρ : ∀ x, RV G F st.mem w (ρ x) (opnd fr st x)) {fn : Fn} {first caps : Array Operand} {dst ty pos after guard} :
  EfOk P G F st.mem nx w id ((execOp ρ ⟨dst, .makeFunc fn first caps, ty, pos, after, guard⟩).run P w) (xop P fr st true id ⟨dst, .makeFunc fn first caps, ty, pos, after, guard⟩) := by
 simp only [xop]
 split
 ·rename_i f hf
  intro hlt
  have hlt : f < 1000000 := Nat.lt_of_succ_le (Nat.le_of_ble_eq_true hlt)
  have : first = #[] := by
   obtain ⟨l⟩ := first
   simp only at hf; subst hf; rfl
  subst this
  refine .val hm (u := fnV f (caps.toList.map ρ)) (by rw [fnV_lt hlt]; simp only [execOp, Instr.makeFunc, Sem.run_bind, Sem.run_pure, Result.andThen_ok, Array.map_empty, ← Array.toList_map]) (.fn f _ _ (by simp) (fun i h1 h2 => ?_))
  simp only [List.getElem_map]
  exact od_rv hρ _
 ·rename_i f _ _ hf
  intro hz
  have : caps = #[] := Array.eq_empty_of_size_eq_zero (by simpa using hz)
  subst this
  refine .val hm (u := fnV (f + 1000000) (first.toList.map ρ)) (by rw [fnV_ge (by rw [hf]; simp)]; simp only [execOp, Instr.makeFunc, Sem.run_bind, Sem.run_pure, Result.andThen_ok, Array.map_empty, ← Array.toList_map]) (.fn (f + 1000000) _ _ (by simp) (fun i h1 h2 => ?_))
  simp only [List.getElem_map]
  exact od_rv hρ _
 ·trivial
theorem x_makeInterface (hm : SimM P G F st.mem nx w) (hρ : ∀ x, RV G F st.mem w (ρ x) (opnd fr st x)) {t : TypeId} {x : Operand} {dst ty pos after guard} :
  EfOk P G F st.mem nx w id ((execOp ρ ⟨dst, .makeInterface t x, ty, pos, after, guard⟩).run P w) (xop P fr st true id ⟨dst, .makeInterface t x, ty, pos, after, guard⟩) := by
 simp only [xop]
 intro h
 rw [Bool.and_eq_true] at h
 obtain ⟨hks, h⟩ := h
 obtain ⟨us, hs⟩ : ∃ u, P.underlying t = some u := by
  cases hu : P.underlying t with
  | none => simp [tknown, hu] at hks
  | some u => exact ⟨u, rfl⟩
 refine .val hm (run_v (u := .iface t (ρ x)) ?_) (.ifc t _ _ (od_rv hρ x))
 simp only [Instr.makeInterface, Sem.run_bind, run_under hs, Result.andThen_ok]
 unfold tiface at h
 cases us <;> simp [hs] at h ⊢
theorem x_makeMap (hm : SimM P G F st.mem nx w) (hρ : ∀ x, RV G F st.mem w (ρ x) (opnd fr st x)) (hid : G id = none) (hn : id < nx) {t : TypeId} {r : Option Operand} {dst ty pos after guard} :
  EfOk P G F st.mem nx w id ((execOp ρ ⟨dst, .makeMap t r, ty, pos, after, guard⟩).run P w) (xop P fr st true id ⟨dst, .makeMap t r, ty, pos, after, guard⟩) := by
 have inv : ∀ k e, tmap P t = some (k, e) → P.underlying t = some (.map k e) := fun k e h => by
  unfold tmap at h; split at h
  ·cases h; assumption
  ·cases h
 have fin : ∀ (k : TypeId) (s : Sem Value), s.run P w = .ok (.map (some w.heap.size)) (pushW w (.map #[] 0)) → OpOk P G F st.mem nx w id ((do pure (Next.value (← s)) : Sem Next).run P w) (.mp id) ((id, .map k []) :: st.mem) := fun k s hs =>
  OpOk.new hm hid hn (run_v hs) (fun b hb => by simp only [blkOf, Option.some.injEq] at hb; exact hb.symm)
   (fun S => ⟨w.heap.size, #[], 0, upG_self _ _ _, pushW_new _ _, ⟨rfl, .empty 0⟩, fun i h1 _ => by simp at h1, fun o hF => by have := hm.inF _ _ hF; omega⟩) (.mp id _ (upG_self _ _ _))
 simp only [xop]
 split
 ·rename_i k e hk
  exact fun _ => fin k (Instr.makeMap t none) (by simp only [Instr.makeMap, Sem.run_bind, Sem.run_pure, Result.andThen_ok, run_newObj]; rfl)
 ·rename_i k e x hk
  have hx := od_rv hρ x
  generalize od fr st true x = X at hx ⊢
  split
  ·refine fun _ => fin k (Instr.makeMap t (some (ρ x))) ?_
   rw [hx.inv_sc]
   simp only [Instr.makeMap, Sem.run_bind, run_under (inv _ _ hk), Sem.run_pure, Result.andThen_ok, asInt, asIntOf, run_newObj]; rfl
  ·trivial
 ·trivial
theorem x_makeSlice (hm : SimM P G F st.mem nx w) (hρ : ∀ x, RV G F st.mem w (ρ x) (opnd fr st x)) (hid : G id = none) (hn : id < nx) {t : TypeId} {l c : Operand} {dst ty pos after guard} :
  EfOk P G F st.mem nx w id ((execOp ρ ⟨dst, .makeSlice t l c, ty, pos, after, guard⟩).run P w) (xop P fr st true id ⟨dst, .makeSlice t l c, ty, pos, after, guard⟩) := by
 simp only [xop]
 have hl := od_rv hρ l
 have hc := od_rv hρ c
 generalize od fr st true l = L at hl ⊢
 generalize od fr st true c = C at hc ⊢
 split
 ·rename_i e ht
  split
  ·rename_i ti n m hti
   split
   ·intro h
    simp only [Bool.and_eq_true, decide_eq_true_eq] at h
    obtain ⟨⟨⟨h1, h2⟩, h3⟩, h4⟩ := h
    have := ok_makeSliceV hm hid hn ht hti h1 h2 h3 h4
    simp only [execOp]
    rw [hl.inv_sc, hc.inv_sc]
    exact this
   ·intro h
    simp only [Bool.and_eq_true, decide_eq_true_eq] at h
    obtain ⟨⟨⟨h1, h2⟩, h3⟩, h4⟩ := h
    have := ok_makeSlice hm hid hn ht hti h1 h2 h3 h4
    simp only [execOp]
    rw [hl.inv_sc, hc.inv_sc]
    exact this
  ·trivial
 ·trivial
theorem x_nilCheck (hm : SimM P G F st.mem nx w) (hρ : ∀ x, RV G F st.mem w (ρ x) (opnd fr st x)) {x : Operand} {dst ty pos after guard} :
  EfOk P G F st.mem nx w id ((execOp ρ ⟨dst, .nilCheck x, ty, pos, after, guard⟩).run P w) (xop P fr st true id ⟨dst, .nilCheck x, ty, pos, after, guard⟩) := by
 simp only [xop]
 have hx := od_rv hρ x
 generalize od fr st true x = X at hx ⊢
 split
 ·rename_i i off
  intro _
  have hx' := hx
  obtain ⟨b, hG, hv⟩ := hx.inv_rf
  refine .val hm (u := ρ x) ?_ hx'
  simp only [execOp, hv, Sem.run_pure]
 ·rename_i cs
  intro _
  have hx' := hx
  obtain ⟨b, o, hv, vs, hF, hii⟩ := ia_inv hx
  refine .val hm (u := ρ x) ?_ hx'
  simp only [execOp, hv, Sem.run_pure]
 ·rename_i i n k o
  split
  ·rename_i esz es fz ho
   intro h
   simp only [decide_eq_true_eq] at h
   have hx' := hx
   obtain ⟨hG, hh⟩ := hx.inv_ea
   obtain ⟨hk, b, ko, c, h1, h2, hv⟩ := (hh _ _ _ ho).2 h
   refine .val hm (u := ρ x) ?_ hx'
   simp only [execOp, hv, Sem.run_pure]
  ·trivial
 ·trivial
theorem x_extract (hm : SimM P G F st.mem nx w) (hρ : ∀ x, RV G F st.mem w (ρ x) (opnd fr st x)) {x : Operand} {i : Nat} {dst ty pos after guard} :
  EfOk P G F st.mem nx w id ((execOp ρ ⟨dst, .extract x i, ty, pos, after, guard⟩).run P w) (xop P fr st true id ⟨dst, .extract x i, ty, pos, after, guard⟩) := by
 simp only [xop]
 have hx := od_rv hρ x
 generalize od fr st true x = X at hx ⊢
 split
 ·rename_i vs
  split
  ·rename_i v hv
   intro _
   obtain ⟨us, hu, hl, hp⟩ := hx.inv_tu
   obtain ⟨hlt, rfl⟩ := List.getElem?_eq_some_iff.1 hv
   refine .val hm (run_v (u := us[i]) ?_) (hp i _ hlt)
   rw [hu]
   simp only [Instr.extract, List.getElem?_toArray, List.getElem?_eq_getElem (show i < us.length by omega), Sem.run_pure]
  ·trivial
 ·trivial
theorem x_typeAssert (hm : SimM P G F st.mem nx w) (hρ : ∀ x, RV G F st.mem w (ρ x) (opnd fr st x)) {x : Operand} {xt t : TypeId} {ok : Bool} {dst ty pos after guard} :
  EfOk P G F st.mem nx w id ((execOp ρ ⟨dst, .typeAssert x xt t ok, ty, pos, after, guard⟩).run P w) (xop P fr st true id ⟨dst, .typeAssert x xt t ok, ty, pos, after, guard⟩) := by
 simp only [xop]
 have hx := od_rv hρ x
 generalize od fr st true x = X at hx ⊢
 split
 ·rename_i t' v
  obtain ⟨u, hu, hr⟩ := hx.inv_ifc
  split
  ·trivial
  ·rename_i hif
   rw [not_or] at hif
   obtain ⟨hif, hks⟩ := hif
   obtain ⟨us, hs⟩ : ∃ u, P.underlying t = some u := by
    cases hu : P.underlying t with
    | none => simp [tknown, hu] at hks
    | some u => exact ⟨u, rfl⟩
   have hni : ∀ ms, us ≠ .interface ms := fun ms e => by
    subst e; unfold tiface at hif; simp [hs] at hif
   have tup : ∀ (z : Value) (b : Bool) (y : AV), RV G F st.mem w z y → RV G F st.mem w (.tuple #[z, .bool b]) (.tu [y, .sc (.bool b)]) := fun z b y h =>
    .tu [z, .bool b] _ rfl (fun i h1 h2 => by
     match i, h1 with
     | 0, _ => exact h
     | 1, _ => exact .imm (.sc _))
   split
   ·rename_i ht
    subst ht
    intro _
    refine .val hm (run_v (u := if ok = true then .tuple #[u, .bool true] else u) ?_) ?_
    ·rw [hu]
     simp only [Instr.typeAssert, Sem.run_bind, run_under hs, Result.andThen_ok]
     cases us <;> first | exact absurd rfl (hni _) | simp
    ·split
     ·exact tup _ _ _ hr
     ·exact hr
   ·rename_i ht
    split
    ·rename_i hok
     split
     ·rename_i ti hti
      intro _
      obtain ⟨z, hz, hzr⟩ := run_zero_rv (w := w) (G := G) (F := F) (M := st.mem) hti
      refine .val hm (run_v (u := .tuple #[z, .bool false]) ?_) (tup _ _ _ hzr)
      rw [hu]
      subst hok
      simp only [Instr.typeAssert, Sem.run_bind, run_under hs, Result.andThen_ok]
      cases us <;> first | exact absurd rfl (hni _) | simp [ht, hz]
     ·trivial
    ·trivial
 ·trivial
end
section
variable {P : Program} {G : Nat → Option Value} {F : Nat → Nat → Prop} {w w' : World} {nx id : Nat} {fr : Fr} {st : St} {ρ : Operand → Value}
def NilV (k : Nat) (b : Bool) (v : Value) : Prop :=
 (k = 1 ∧ ∃ a l c, v = .slice a l c ∧ b = a.isNone) ∨ (k = 2 ∧ ((b = true ∧ v = .nilFunc) ∨ (b = false ∧ ∃ f p q, v = .func f p q))) ∨ (k = 3 ∧ ∃ a, v = .pointer a ∧ b = a.isNone)
theorem nilOf_inv (hm : SimM P G F st.mem nx w) {v : Value} {y : AV} {k : Nat} {b : Bool} (h : RV G F st.mem w v y) (hn : nilOf st.mem y = some (k, b)) : NilV k b v := by
 unfold nilOf at hn
 split at hn
 ·cases hn
  cases h.inv_sl with
  | nil => exact .inl ⟨rfl, _, _, _, rfl, rfl⟩
  | sl => exact .inl ⟨rfl, _, _, _, rfl, rfl⟩
  | sz => exact .inl ⟨rfl, _, _, _, rfl, rfl⟩
 ·split at hn
  ·rename_i ho
   split at hn
   ·rename_i hlen
    cases hn
    obtain ⟨hG, hnl, va, vc, rfl, _⟩ := tl_handle hm h ho hlen
    exact .inl ⟨rfl, _, _, _, rfl, by rw [hnl]; cases va <;> rfl⟩
   ·cases hn
  ·cases hn
 ·split at hn
  ·rename_i ho
   split at hn
   ·rename_i hlen
    cases hn
    obtain ⟨_, hh⟩ := h.inv_tv
    obtain ⟨_, b, ko, c, _, _, c', rfl, _⟩ := (hh _ _ _ ho).2 hlen
    exact .inl ⟨rfl, _, _, _, rfl, rfl⟩
   ·cases hn
  ·cases hn
 ·cases hn; exact .inr (.inl ⟨rfl, .inl ⟨rfl, h.inv_sc⟩⟩)
 ·cases hn
  obtain ⟨vs, rfl, _⟩ := h.inv_fn
  obtain ⟨_, _, _, e⟩ := fnV_func _ vs
  rw [e]
  exact .inr (.inl ⟨rfl, .inr ⟨rfl, _, _, _, rfl⟩⟩)
 ·cases hn; exact .inr (.inr ⟨rfl, none, h.inv_sc, rfl⟩)
 ·cases hn
  obtain ⟨b, _, rfl⟩ := h.inv_rf
  exact .inr (.inr ⟨rfl, _, rfl, rfl⟩)
 ·cases hn
theorem run_nil_eq {t : TypeId} {a b : Value} {k : Nat} {p q : Bool} (ha : NilV k p a) (hb : NilV k q b) (hk : k = nilTy P t) (hor : p = true ∨ q = true) : (Op.equal t a b).run P w = .ok (p && q) w := by
 have hu : (k = 1 → ∃ e, P.underlying t = some (.slice e)) ∧ (k = 2 → ∃ x y z, P.underlying t = some (.func x y z)) ∧ (k = 3 → ∃ e, P.underlying t = some (.pointer e)) := by
  unfold nilTy at hk
  split at hk <;> subst hk
  ·exact ⟨fun _ => ⟨_, ‹_›⟩, (fun h => by cases h), (fun h => by cases h)⟩
  ·exact ⟨(fun h => by cases h), fun _ => ⟨_, _, _, ‹_›⟩, (fun h => by cases h)⟩
  ·exact ⟨(fun h => by cases h), (fun h => by cases h), fun _ => ⟨_, ‹_›⟩⟩
  ·exact ⟨(fun h => by cases h), (fun h => by cases h), (fun h => by cases h)⟩
 obtain ⟨d, hd⟩ : ∃ d, Op.maxDepth = d + 1 := ⟨9999, rfl⟩
 simp only [Op.equal, hd]
 rcases ha with ⟨rfl, a1, l1, c1, rfl, rfl⟩ | ⟨rfl, h1⟩ | ⟨rfl, a1, rfl, rfl⟩
 ·obtain ⟨e, he⟩ := hu.1 rfl
  rcases hb with ⟨_, a2, l2, c2, rfl, rfl⟩ | ⟨h, _⟩ | ⟨h, _⟩
  ·cases a1 <;> cases a2 <;> simp only [Op.equalIn, Sem.run_bind, run_under he, Result.andThen_ok, Sem.run_pure] <;> simp at hor ⊢
  ·cases h
  ·cases h
 ·obtain ⟨x, y, z, he⟩ := hu.2.1 rfl
  rcases hb with ⟨h, _⟩ | ⟨_, h2⟩ | ⟨h, _⟩
  ·cases h
  ·rcases h1 with ⟨rfl, rfl⟩ | ⟨rfl, f1, p1, q1, rfl⟩ <;> rcases h2 with ⟨rfl, rfl⟩ | ⟨rfl, f2, p2, q2, rfl⟩ <;> simp only [Op.equalIn, Sem.run_bind, run_under he, Result.andThen_ok, Sem.run_pure] <;> simp at hor ⊢
  ·cases h
 ·obtain ⟨e, he⟩ := hu.2.2 rfl
  rcases hb with ⟨h, _⟩ | ⟨h, _⟩ | ⟨_, a2, rfl, rfl⟩
  ·cases h
  ·cases h
  ·cases a1 <;> cases a2 <;> simp only [Op.equalIn, Sem.run_bind, run_under he, Result.andThen_ok, Sem.run_pure] <;> simp at hor ⊢
theorem x_binOp (hm : SimM P G F st.mem nx w) (hρ : ∀ x, RV G F st.mem w (ρ x) (opnd fr st x)) {op : BinOp} {t : TypeId} {x y : Operand} {yt : TypeId} {dst ty pos after guard} :
  EfOk P G F st.mem nx w id ((execOp ρ ⟨dst, .binOp op t x y yt, ty, pos, after, guard⟩).run P w) (xop P fr st true id ⟨dst, .binOp op t x y yt, ty, pos, after, guard⟩) := by
 simp only [xop]
 have hx := od_rv hρ x
 have hy := od_rv hρ y
 generalize od fr st true x = X at hx ⊢
 generalize od fr st true y = Y at hy ⊢
 split
 ·rename_i a b ha hb
  obtain ⟨k, p⟩ := a
  obtain ⟨k', q⟩ := b
  have h1 := nilOf_inv hm hx ha
  have h2 := nilOf_inv hm hy hb
  have hg : (eqGuard op t x y (ρ x) (ρ y)).run P w = .ok () w := eqGuard_int (fun cs ds e _ => by
   rw [e] at h1; rcases h1 with ⟨_, _, _, _, h, _⟩ | ⟨_, ⟨_, h⟩ | ⟨_, _, _, _, h⟩⟩ | ⟨_, _, h, _⟩ <;> cases h) (fun e => by
   rw [e] at h1; rcases h1 with ⟨_, _, _, _, h, _⟩ | ⟨_, ⟨_, h⟩ | ⟨_, _, _, _, h⟩⟩ | ⟨_, _, h, _⟩ <;> cases h)
  have hcase : ∀ r, (Op.equal t (ρ x) (ρ y)).run P w = .ok r w → (binOp .eql t (ρ x) (ρ y)).run P w = .ok (.bool r) w ∧ (binOp .neq t (ρ x) (ρ y)).run P w = .ok (.bool (!r)) w := fun r hr => by
   have e1 : binOp .eql t (ρ x) (ρ y) = (do pure (.bool (← Op.equal t (ρ x) (ρ y)))) ∧ binOp .neq t (ρ x) (ρ y) = (do pure (.bool (!(← Op.equal t (ρ x) (ρ y))))) := by
    rcases h1 with ⟨_, _, _, _, h, _⟩ | ⟨_, ⟨_, h⟩ | ⟨_, _, _, _, h⟩⟩ | ⟨_, _, h, _⟩ <;> rcases h2 with ⟨_, _, _, _, h', _⟩ | ⟨_, ⟨_, h'⟩ | ⟨_, _, _, _, h'⟩⟩ | ⟨_, _, h', _⟩ <;> rw [h, h'] <;> exact ⟨rfl, rfl⟩
   rw [e1.1, e1.2]
   simp [hr]
  unfold nilEf
  split
  ·intro h
   simp only [Bool.and_eq_true, Bool.or_eq_true, decide_eq_true_eq] at h
   obtain ⟨⟨hor, rfl⟩, hk⟩ := h
   subst hk
   have := (hcase _ (run_nil_eq (w := w) h1 h2 rfl hor)).1
   exact .val hm (run_v (by rw [Sem.run_bind, hg, Result.andThen_ok, this])) (.imm (.sc _))
  ·intro h
   simp only [Bool.and_eq_true, Bool.or_eq_true, decide_eq_true_eq] at h
   obtain ⟨⟨hor, rfl⟩, hk⟩ := h
   subst hk
   have := (hcase _ (run_nil_eq (w := w) h1 h2 rfl hor)).2
   exact .val hm (run_v (by rw [Sem.run_bind, hg, Result.andThen_ok, this])) (.imm (.sc _))
  ·trivial
 ·have := run_binEf (P := P) (op := op) (t := t) (ox := x) (oy := y) hx hy
  generalize binEf P op t X Y = e at this ⊢
  cases e with
  | val ok v =>
    intro h
    obtain ⟨u, hu, rfl⟩ := this h
    exact .val hm (run_v hu) (.imm (.sc _))
  | bad => trivial
  | _ => exact this.elim
theorem run_bound {k : IntKind} {i : Int} {y : Nat} {code : BoundsCode} (h0 : 0 ≤ i) (h1 : i ≤ y) : (Instr.sliceBound (.int k i) y code).run P w = .ok i.toNat w := by
 simp [Instr.sliceBound, asIntOf, h0, h1]
def bnd (ρ : Operand → Value) (y : Option Operand) (r : Option Int) : Prop :=
 match y, r with
 | none, none => True
 | some z, some i => ∃ k, ρ z = .int k i
 | _, _ => False
theorem Imm.cut {v : Value} {nl : Bool} {es : List (List AV)} {cap : Cp} (h : Imm F w v (.sl nl es cap)) :
  ∃ a c, v = .slice a es.length c ∧ es.length ≤ c ∧ (cap = .full → c = es.length) ∧ (cap = .zer → c = 0) ∧
    ∀ (size l n m : Nat) (cp : Cp), (∀ i (h : i < es.length), es[i].length = size) → l ≤ n → n ≤ m → (n ≤ es.length) → m ≤ c → (cp = .unk ∨ (cp = .zer ∧ m - l = 0) ∨ (cp = .full ∧ m - l = n - l) ∨ cp = .val (m - l)) →
      Imm F w (.slice (if m = l then a else a.map (·.add (l * size))) (n - l) (m - l)) (.sl nl ((es.take n).drop l) cp) := by
 cases h with
 | nil _ _ =>
   refine ⟨none, 0, rfl, Nat.le_refl _, fun _ => rfl, fun _ => rfl, fun size l n m cp _ h1 h2 h3 h4 hcp => ?_⟩
   have : m = 0 := by omega
   subst this
   have : l = 0 := by omega
   subst this
   have : n = 0 := by omega
   subst this
   simp only [if_true, List.take_nil, List.drop_nil]
   refine .nil cp ?_
   rcases hcp with h | ⟨h, _⟩ | ⟨h, _⟩ | h
   ·exact .inl h
   ·exact .inr (.inl h)
   ·exact .inr (.inr (.inl h))
   ·exact .inr (.inr (.inr h))
 | sz a _ _ =>
   refine ⟨some a, 0, rfl, Nat.le_refl _, fun _ => rfl, fun _ => rfl, fun size l n m cp _ h1 h2 h3 h4 hcp => ?_⟩
   have : m = 0 := by omega
   subst this
   have : l = 0 := by omega
   subst this
   have : n = 0 := by omega
   subst this
   simp only [if_true, List.take_nil, List.drop_nil]
   refine .sz a cp ?_
   rcases hcp with h | ⟨h, _⟩ | ⟨h, _⟩ | h
   ·exact .inl h
   ·exact .inr (.inl h)
   ·exact .inr (.inr (.inl h))
   ·exact .inr (.inr (.inr h))
 | sl b off c esz _ _ vs hc hcap hes hF hi =>
   refine ⟨_, c, rfl, hc, fun e => ?_, fun e => ?_, fun size l n m cp hsz h1 h2 h3 h4 hcp => ?_⟩
   ·subst e; rcases hcap with h | ⟨h, _⟩ | ⟨_, h⟩ | h
    ·cases h
    ·cases h
    ·exact h
    ·cases h
   ·subst e; rcases hcap with h | ⟨_, h⟩ | ⟨h, _⟩ | h
    ·cases h
    ·exact h
    ·cases h
    ·cases h
   ·have hlen : ((es.take n).drop l).length = n - l := by simp; omega
    have hget : ∀ i (h : i < ((es.take n).drop l).length), ((es.take n).drop l)[i] = es[l + i]'(by rw [hlen] at h; omega) := fun i h => by simp
    have hcp' : cp = .unk ∨ (cp = .zer ∧ m - l = 0) ∨ (cp = .full ∧ m - l = ((es.take n).drop l).length) ∨ cp = .val (m - l) := by rw [hlen]; exact hcp
    rw [← hlen]
    by_cases hml : m = l
    ·rw [if_pos hml]
     have h0 : (es.take n).drop l = [] := List.length_eq_zero_iff.1 (by rw [hlen]; omega)
     rw [h0] at hcp' ⊢
     exact .sl b off (m - l) esz [] cp (fun _ _ => undef) (by simp) hcp' (by simp) (by simp) (by simp)
    ·rw [if_neg hml]
     simp only [Option.map_some, add_eq]
     by_cases hnl : n = l
     ·have h0 : (es.take n).drop l = [] := List.length_eq_zero_iff.1 (by rw [hlen]; omega)
      rw [h0] at hcp' ⊢
      exact .sl b _ (m - l) esz [] cp (fun _ _ => undef) (by simp) hcp' (by simp) (by simp) (by simp)
     ·have hesz : esz = size := by rw [← hsz l (by omega)]; exact (hes l (by omega)).symm
      subst hesz
      refine .sl b (off + l * esz) (m - l) esz _ cp (fun i j => vs (l + i) j) (by rw [hlen]; omega) hcp' (fun i h => by rw [hget i h]; exact hes _ _) (fun i j h hj => ?_) (fun i j h hj => ?_)
      ·rw [hlen] at h
       have := hF (l + i) j (by omega) hj
       rw [Nat.add_mul] at this
       rw [show off + l * esz + i * esz + j = off + (l * esz + i * esz) + j by omega]; exact this
      ·simp only [hget i h] at hj ⊢
       exact hi _ _ _ hj
theorem view_inv (hm : SimM P G F st.mem nx w) {v : Value} {y : AV} {i esz n off len : Nat} {cap : Cp} (h : RV G F st.mem w v y) (hv : viewOf st.mem y = some (i, esz, n, off, len, cap)) (hn : n ≠ 0) :
  ∃ b ko c c' es fz, G i = some (.slice (some ⟨b, ko, none⟩) n c) ∧ c ≠ 0 ∧ v = .slice (some ⟨b, ko + off * esz, none⟩) len c' ∧ len ≤ c' ∧ (cap = .unk ∨ cap = .val c' ∨ (cap = .rest ∧ off + c' = c)) ∧ off + len ≤ n ∧ mlook st.mem i = some (.arr esz es fz) ∧ n = es.length := by
 unfold viewOf at hv
 split at hv
 ·split at hv
  ·rename_i ho
   split at hv
   ·rename_i hlen
    cases hv
    obtain ⟨hG, hnl, va, vc, rfl, hcase⟩ := tl_handle hm h ho hlen
    rcases hcase with ⟨h0, _⟩ | ⟨b, ko, cc, e0, hva, k2, h3⟩
    ·subst h0; exact absurd hlen hn
    ·subst hva
     obtain ⟨_, _⟩ := h3
     rcases (hm.obj _ _ ho).2 with ⟨h0, _⟩ | ⟨b', ko', c', cc', e', h1, h2, h3', h4, _⟩
     ·subst h0; exact absurd hlen hn
     ·rw [hG] at h1; cases h1
      exact ⟨_, _, _, vc, _, _, by rw [hG, hlen], k2, by simp [hlen], by omega, .inr (.inr ⟨rfl, by omega⟩), by omega, ho, hlen⟩
   ·cases hv
  ·cases hv
 ·split at hv
  ·rename_i ho
   split at hv
   ·rename_i hlen
    cases hv
    obtain ⟨_, hh⟩ := h.inv_tv
    obtain ⟨hol, b, ko, c, hG, hc0, c', rfl, hlc, hcp⟩ := (hh _ _ _ ho).2 hlen
    replace hc0 : c ≠ 0 := hc0.resolve_right fun h => hn h.1
    exact ⟨b, ko, c, c', _, _, hG, hc0, rfl, hlc, hcp, hol, ho, hlen⟩
   ·cases hv
  ·cases hv
 ·cases hv
theorem x_slice (hm : SimM P G F st.mem nx w) (hρ : ∀ x, RV G F st.mem w (ρ x) (opnd fr st x)) {t : TypeId} {x : Operand} {lo hi mx : Option Operand} {dst ty pos after guard} :
  EfOk P G F st.mem nx w id ((execOp ρ ⟨dst, .slice t x lo hi mx, ty, pos, after, guard⟩).run P w) (xop P fr st true id ⟨dst, .slice t x lo hi mx, ty, pos, after, guard⟩) := by
 simp only [xop]
 split
 ·rename_i e ht
  split
  ·trivial
  rename_i hinf
  have hsize := info_size (w := w) hinf
  have hx := (od_rv hρ x).snap hm
  generalize snap st.mem (od fr st true x) = X at hx ⊢
  have hun := telem_inv ht
  have hv : ∀ (y : Option Operand) (r : Option Int), bound (y.map (od fr st true)) = some r → (y = none ∧ r = none) ∨ ∃ z k i, y = some z ∧ r = some i ∧ ρ z = .int k i := by
   intro y r h
   cases y with
   | none => simp [bound] at h; exact .inl ⟨rfl, h.symm⟩
   | some z =>
     have hz := od_rv hρ z
     simp only [Option.map_some] at h
     unfold bound at h
     split at h
     ·cases ‹some (od fr st true z) = none›
     ·rename_i k i hi
      simp only [Option.some.injEq] at hi
      rw [hi] at hz
      cases h
      exact .inr ⟨z, k, i, rfl, rfl, hz.inv_sc⟩
     ·cases h
  split
  ·rename_i a b c ha hb hc
   have h1 := hv lo a ha
   have h2 := hv hi b hb
   have h3 := hv mx c hc
   split
   ·rename_i i esz n off len cap hvw
    have key : ∀ (l h : Nat) (ok : Bool) (capN : Cp), (ok = true → ∀ cp : Nat, len ≤ cp → l ≤ h → h ≤ len → ∃ m, h ≤ m ∧ (Instr.sliceBounds true len cp (lo.map ρ) (hi.map ρ) (mx.map ρ)).run P w = .ok (l, h, m) w ∧ (capN = .unk ∨ capN = .val (m - l) ∨ (∃ k, cap = .val k ∧ capN = .val (k - l) ∧ (k = cp → m = cp)) ∨ (cap = .rest ∧ capN = .rest ∧ m = cp))) →
      EfOk P G F st.mem nx w id ((do pure (Next.value (← Instr.sliceAt t (ρ x) (lo.map ρ) (hi.map ρ) (mx.map ρ))) : Sem Next).run P w) (vEf (P.cellsOf e) i esz n off len l h ok capN) := by
     intro l h ok capN hok hq
     simp only [vEf, Bool.and_eq_true, Bool.or_eq_true, decide_eq_true_eq] at hq
     obtain ⟨⟨⟨⟨⟨q0, q1⟩, q2⟩, q3⟩, q4⟩, q5⟩ := hq
     obtain ⟨b, ko, cG, c', es, fz, hG, hc0, hval, hlc, hcp, hol, ho, hlen⟩ := view_inv hm hx hvw q2
     obtain ⟨m, hm1, hb, hcapN⟩ := hok q0 c' hlc q3 q4
     have hrun : (Instr.sliceAt t (ρ x) (lo.map ρ) (hi.map ρ) (mx.map ρ)).run P w = .ok (.slice (some ⟨b, ko + (off + l) * esz, none⟩) (h - l) (m - l)) w := by
      simp only [Instr.sliceAt, Sem.run_bind, run_under hun, Result.andThen_ok, hval, Instr.slice, hb, hsize, Sem.run_pure]
      congr 2
      split
      ·have hl0 : l = 0 := by omega
       subst hl0; simp
      ·simp only [Option.map_some, add_eq, ← q1, Nat.add_mul, Nat.add_assoc]
     refine .val hm (run_v hrun) (.tv i n (off + l) (h - l) capN _ (by rw [hG]; simp) fun esz' es' fz' ho' => ?_)
     rw [ho] at ho'; cases ho'
     refine ⟨by omega, fun _ => ⟨by omega, b, ko, cG, hG, .inl hc0, m - l, rfl, by omega, ?_⟩⟩
     rcases hcapN with h | h | ⟨k, h1, h2, h3⟩ | ⟨h1, h2, h3⟩
     ·exact .inl h
     ·exact .inr (.inl h)
     ·rcases hcp with h | h | ⟨h, _⟩
      ·rw [h1] at h; cases h
      ·rw [h1] at h; cases h
       exact .inr (.inl (by rw [h2, h3 rfl]))
      ·rw [h1] at h; cases h
     ·rcases hcp with h | h | ⟨_, h⟩
      ·rw [h1] at h; cases h
      ·rw [h1] at h; cases h
      ·exact .inr (.inr ⟨h2, by omega⟩)
    have hcut : ∀ l (cp : Nat), cutV l cap = .unk ∨ cutV l cap = .val (cp - l) ∨ (∃ k, cap = .val k ∧ cutV l cap = .val (k - l) ∧ (k = cp → cp = cp)) ∨ (cap = .rest ∧ cutV l cap = .rest ∧ cp = cp) := fun l cp => by
     cases cap with
     | val k => exact .inr (.inr (.inl ⟨k, rfl, rfl, fun _ => rfl⟩))
     | rest => exact .inr (.inr (.inr ⟨rfl, rfl, rfl⟩))
     | _ => exact .inl rfl
    have b0 : ∀ y : Nat, ∀ code : BoundsCode, ∀ z k i, ρ z = Value.int k i → 0 ≤ i → i ≤ (y : Int) → (Instr.sliceBound (ρ z) y code).run P w = .ok i.toNat w := fun y code z k i hz h0 h1 => by rw [hz]; exact run_bound h0 h1
    unfold sliceV
    rcases h1 with ⟨rfl, rfl⟩ | ⟨zl, kl, il, rfl, rfl, hzl⟩ <;> rcases h2 with ⟨rfl, rfl⟩ | ⟨zh, kh, ih, rfl, rfl, hzh⟩ <;> rcases h3 with ⟨rfl, rfl⟩ | ⟨zm, km, im, rfl, rfl, hzm⟩ <;> simp only
    ·refine key 0 len true _ fun _ cp hc _ _ => ⟨cp, hc, ?_, hcut 0 cp⟩
     simp [Instr.sliceBounds]
    ·trivial
    ·refine key 0 ih.toNat _ _ fun hk cp hc q1 q2 => ?_
     simp only [decide_eq_true_eq] at hk
     refine ⟨cp, by omega, ?_, hcut 0 cp⟩
     simp [Instr.sliceBounds, b0 cp _ zh kh ih hzh hk (by omega)]
    ·refine key 0 ih.toNat _ _ fun hk cp hc q1 q2 => ?_
     simp only [Bool.and_eq_true, decide_eq_true_eq] at hk
     refine ⟨im.toNat, by omega, ?_, .inr (.inl (by simp))⟩
     simp [Instr.sliceBounds, b0 cp _ zm km im hzm (by omega) (by omega), b0 im.toNat _ zh kh ih hzh hk.1.1 (by omega)]
    ·refine key il.toNat len _ _ fun hk cp hc q1 q2 => ?_
     simp only [decide_eq_true_eq] at hk
     refine ⟨cp, hc, ?_, hcut _ cp⟩
     simp [Instr.sliceBounds, b0 len _ zl kl il hzl hk (by omega)]
    ·trivial
    ·refine key il.toNat ih.toNat _ _ fun hk cp hc q1 q2 => ?_
     simp only [Bool.and_eq_true, decide_eq_true_eq] at hk
     refine ⟨cp, by omega, ?_, hcut _ cp⟩
     simp [Instr.sliceBounds, b0 cp _ zh kh ih hzh hk.2 (by omega), b0 ih.toNat _ zl kl il hzl hk.1 (by omega)]
    ·refine key il.toNat ih.toNat _ _ fun hk cp hc q1 q2 => ?_
     simp only [Bool.and_eq_true, decide_eq_true_eq] at hk
     refine ⟨im.toNat, by omega, ?_, .inr (.inl rfl)⟩
     simp [Instr.sliceBounds, b0 cp _ zm km im hzm (by omega) (by omega), b0 im.toNat _ zh kh ih hzh (by omega) (by omega), b0 ih.toNat _ zl kl il hzl (by omega) (by omega)]
   unfold sliceEf
   split
   ·rename_i nl es cap _
    obtain ⟨ad, cp, hval, hle, hfull, hzer, hcut⟩ := hx.inv_sl.cut
    have hall : (es.all fun y => decide (y.length = P.cellsOf e)) = true → ∀ i (h : i < es.length), es[i].length = P.cellsOf e := fun h i hi => by
     rw [List.all_eq_true] at h
     simpa using h _ (List.getElem_mem hi)
    have runIt : ∀ (l n m : Nat), (Instr.sliceBounds true es.length cp (lo.map ρ) (hi.map ρ) (mx.map ρ)).run P w = .ok (l, n, m) w →
      (Instr.sliceAt t (ρ x) (lo.map ρ) (hi.map ρ) (mx.map ρ)).run P w = .ok (.slice (if m = l then ad else ad.map (·.add (l * P.cellsOf e))) (n - l) (m - l)) w := fun l n m h => by
     simp only [Instr.sliceAt, Sem.run_bind, run_under hun, Result.andThen_ok, hval, Instr.slice, h, hsize, Sem.run_pure]
    have hlo : ∀ (h n m : Nat) (code : BoundsCode), 0 ≤ a.getD 0 → a.getD 0 ≤ (h : Int) → (match lo.map ρ with
      | some v => do pure (← Instr.sliceBound v h code, n, m)
      | none => do pure (← pure 0, n, m) : Sem (Nat × Nat × Nat)).run P w = .ok ((a.getD 0).toNat, n, m) w := fun h n m code h0 h4 => by
     rcases h1 with ⟨rfl, rfl⟩ | ⟨z, k, i, rfl, rfl, hz⟩
     ·rfl
     ·simp only [Option.map_some, hz, Sem.run_bind, run_bound (k := k) (code := code) (show (0 : Int) ≤ i from h0) (show i ≤ (h : Int) from h4), Result.andThen_ok, Sem.run_pure]; rfl
    split
    ·rcases h2 with ⟨rfl, _⟩ | ⟨_, _, _, _, h, _⟩
     ·rcases h3 with ⟨rfl, _⟩ | ⟨_, _, _, _, h, _⟩
      ·intro h
       simp only [Bool.and_eq_true, decide_eq_true_eq] at h
       have hb : (Instr.sliceBounds true es.length cp (lo.map ρ) none none).run P w = .ok ((a.getD 0).toNat, es.length, cp) w := by
        have := hlo es.length es.length cp .sliceB h.1.2 h.2
        simp only [Instr.sliceBounds, Sem.run_bind, Sem.run_pure, Result.andThen_ok, Option.isSome_none, Bool.false_eq_true, if_false]
        exact this
       have := hcut (P.cellsOf e) (a.getD 0).toNat es.length cp (cutTail cap) (hall h.1.1) (by omega) hle (Nat.le_refl _) (Nat.le_refl _) (by
        cases cap with
        | full => exact .inr (.inr (.inl ⟨rfl, by rw [hfull rfl]⟩))
        | zer => exact .inr (.inl ⟨rfl, by rw [hzer rfl]; simp⟩)
        | _ => exact .inl rfl)
       rw [List.take_length] at this
       exact .val hm (run_v (runIt _ _ _ hb)) (.imm this)
      ·cases h
     ·cases h
    ·rename_i hh
     rcases h2 with ⟨_, h⟩ | ⟨z2, k2, i2, rfl, h, hz2⟩
     ·cases h
     ·cases h
      rcases h3 with ⟨rfl, _⟩ | ⟨_, _, _, _, h, _⟩
      ·intro h
       simp only [Bool.and_eq_true, decide_eq_true_eq] at h
       obtain ⟨⟨⟨q0, q1⟩, q2⟩, q3⟩ := h
       have hb : (Instr.sliceBounds true es.length cp (lo.map ρ) (some (ρ z2)) none).run P w = .ok ((a.getD 0).toNat, hh.toNat, cp) w := by
        have := hlo hh.toNat hh.toNat cp .sliceB q1 (by omega)
        simp only [Instr.sliceBounds, Sem.run_bind, Sem.run_pure, Result.andThen_ok, hz2, if_true, run_bound (show (0 : Int) ≤ hh by omega) (show hh ≤ (cp : Int) by omega), Option.isSome_none, Bool.false_eq_true, if_false]
        exact this
       have := hcut (P.cellsOf e) (a.getD 0).toNat hh.toNat cp (cutHead cap) (hall q0) (by omega) (by omega) (by omega) (Nat.le_refl _) (by
        cases cap with
        | zer => exact .inr (.inl ⟨rfl, by rw [hzer rfl]; simp⟩)
        | _ => exact .inl rfl)
       exact .val hm (run_v (runIt _ _ _ hb)) (.imm this)
      ·cases h
    ·rename_i hh mm
     rcases h2 with ⟨_, h⟩ | ⟨z2, k2, i2, rfl, h, hz2⟩
     ·cases h
     ·cases h
      rcases h3 with ⟨_, h⟩ | ⟨z3, k3, i3, rfl, h, hz3⟩
      ·cases h
      ·cases h
       intro h
       simp only [Bool.and_eq_true, decide_eq_true_eq] at h
       obtain ⟨⟨⟨⟨q0, q1⟩, q2⟩, q3⟩, q4⟩ := h
       have hb : (Instr.sliceBounds true es.length cp (lo.map ρ) (some (ρ z2)) (some (ρ z3))).run P w = .ok ((a.getD 0).toNat, hh.toNat, mm.toNat) w := by
        have := hlo hh.toNat hh.toNat mm.toNat .slice3C q1 (by omega)
        simp only [Instr.sliceBounds, Sem.run_bind, Sem.run_pure, Result.andThen_ok, hz2, hz3, if_true, run_bound (show (0 : Int) ≤ mm by omega) (show mm ≤ (cp : Int) by omega), run_bound (show (0 : Int) ≤ hh by omega) (show hh ≤ (mm.toNat : Int) by omega), Option.isSome_some]
        exact this
       have := hcut (P.cellsOf e) (a.getD 0).toNat hh.toNat mm.toNat (if hh = mm then .full else .val (mm - a.getD 0).toNat) (hall q0) (by omega) (by omega) (by omega) (by omega) (by
        split
        ·rename_i e1; subst e1; exact .inr (.inr (.inl ⟨rfl, rfl⟩))
        ·exact .inr (.inr (.inr (by congr 1; omega))))
       exact .val hm (run_v (runIt _ _ _ hb)) (.imm this)
    ·trivial
   ·rename_i ad len cp _
    have hval := hx.inv_sc
    split
    ·rename_i hh mm
     rcases h1 with ⟨rfl, _⟩ | ⟨_, _, _, _, h, _⟩
     ·rcases h2 with ⟨_, h⟩ | ⟨z2, k2, i2, rfl, h, hz2⟩
      ·cases h
      ·cases h
       rcases h3 with ⟨_, h⟩ | ⟨z3, k3, i3, rfl, h, hz3⟩
       ·cases h
       ·cases h
        intro h
        simp only [Bool.and_eq_true, decide_eq_true_eq] at h
        obtain ⟨⟨q1, q2⟩, q3⟩ := h
        have hb : (Instr.sliceBounds true len cp none (some (ρ z2)) (some (ρ z3))).run P w = .ok (0, hh.toNat, mm.toNat) w := by
         simp only [Instr.sliceBounds, Sem.run_bind, Sem.run_pure, Result.andThen_ok, hz2, hz3, if_true, run_bound (show (0 : Int) ≤ mm by omega) (show mm ≤ (cp : Int) by omega), run_bound (show (0 : Int) ≤ hh by omega) (show hh ≤ (mm.toNat : Int) by omega), Option.isSome_some]
        refine .val hm (run_v (u := .slice (some ad) hh.toNat mm.toNat) ?_) (.imm (.sc _))
        simp only [Option.map_none, Option.map_some, Instr.sliceAt, Sem.run_bind, run_under hun, Result.andThen_ok, hval, Instr.slice, hb, hsize, Sem.run_pure]
        simp [Addr.add]
     ·cases h
    ·trivial
   ·trivial
  ·trivial
 ·trivial
theorem tmap_inv {t k e : TypeId} (h : tmap P t = some (k, e)) : P.underlying t = some (.map k e) := by
 unfold tmap at h; split at h
 ·cases h; assumption
 ·cases h
theorem efind_spec (k : Value) (v : AV) : ∀ (ents : List MapEntry) (es : List (Value × AV)) (i0 : Nat), ents.length = es.length → (∀ i (h1 : i < ents.length) (h2 : i < es.length), ents[i].key = es[i].1) →
  (efind ents k i0 = none ∧ elook es k = none ∧ eset es k v = es ++ [(k, v)]) ∨
  (∃ j, ∃ (h1 : j < ents.length) (h2 : j < es.length), efind ents k i0 = some (i0 + j, ents[j].val) ∧ elook es k = some es[j].2 ∧ eset es k v = es.set j (k, v) ∧ eqVal k ents[j].key = true)
 | [], [], _, _, _ => .inl ⟨rfl, rfl, rfl⟩
 | e :: ents, (q, u) :: es, i0, hl, hk => by
   have h0 := hk 0 (by simp) (by simp)
   simp only [List.getElem_cons_zero] at h0
   by_cases he : eqVal k e.key = true
   ·refine .inr ⟨0, by simp, by simp, ?_, ?_, ?_, by simpa using he⟩
    ·simp [efind, he]
    ·simp [elook, ← h0, he]
    ·simp [eset, ← h0, he]
   ·have he' : eqVal k e.key = false := by simpa using he
    rcases efind_spec k v ents es (i0 + 1) (by simpa using hl) (fun i h1 h2 => hk (i + 1) (by simpa using h1) (by simpa using h2)) with ⟨a, b, c⟩ | ⟨j, h1, h2, a, b, c, d⟩
    ·exact .inl ⟨by simp [efind, he', a], by simp [elook, ← h0, he', b], by simp [eset, ← h0, he', c]⟩
    ·refine .inr ⟨j + 1, by simpa using h1, by simpa using h2, ?_, ?_, ?_, by simpa using d⟩
     ·simp only [efind, he', Bool.false_eq_true, if_false, a, List.getElem_cons_succ]
      congr 2; omega
     ·simp [elook, ← h0, he', b]
     ·simp [eset, ← h0, he', c]
 | [], _ :: _, _, hl, _ => by simp at hl
 | _ :: _, [], _, hl, _ => by simp at hl
theorem map_of (hm : SimM P G F st.mem nx w) {i b : Nat} {kt : TypeId} {es : List (Value × AV)} (hG : G i = some (.map (some b))) (ho : mlook st.mem i = some (.map kt es)) :
  ∃ (ents : Array MapEntry) (clock : Nat), w.heap[b]? = some (.map ents clock) ∧ (ents.size = es.length ∧ BornOk ents clock) ∧
    (∀ i (h1 : i < ents.size) (h2 : i < es.length), ents[i].key = es[i].1 ∧ RV G F st.mem w ents[i].val es[i].2 ∧ isKey P kt es[i].1 = true) ∧ ∀ o, ¬ F b o := by
 obtain ⟨b', ents, clock, h1, h2, h3, h4, h5⟩ := (hm.obj i _ ho).2
 rw [hG] at h1; cases h1
 exact ⟨ents, clock, h2, h3, h4, h5⟩
theorem run_getObj {r : Nat} {ents : Array MapEntry} {clock : Nat} (h : w.heap[r]? = some (.map ents clock)) : (getObj r).run P w = .ok (.map ents clock) w := by
 simp [getObj, Sem.run, h]
def putW (w : World) (r : Nat) (o : Obj) : World := { w with heap := w.heap.setIfInBounds r o }
theorem run_setObj {r : Nat} {ents : Array MapEntry} {clock : Nat} (o : Obj) (h : w.heap[r]? = some (.map ents clock)) : (setObj r o).run P w = .ok () (putW w r o) := by
 simp [setObj, Sem.run, h]; rfl
theorem x_lookup (hm : SimM P G F st.mem nx w) (hρ : ∀ x, RV G F st.mem w (ρ x) (opnd fr st x)) {t : TypeId} {m k : Operand} {ok : Bool} {dst ty pos after guard} :
  EfOk P G F st.mem nx w id ((execOp ρ ⟨dst, .lookup t m k ok, ty, pos, after, guard⟩).run P w) (xop P fr st true id ⟨dst, .lookup t m k ok, ty, pos, after, guard⟩) := by
 simp only [xop]
 have hmv := od_rv hρ m
 have hkv := od_rv hρ k
 generalize od fr st true m = A at hmv ⊢
 generalize od fr st true k = K at hkv ⊢
 split
 ·rename_i kt et kv i ht hk
  split
  ·rename_i kt' es ti ho hti
   obtain ⟨b, hG, hval⟩ := hmv.inv_mp
   obtain ⟨ents, clock, hb, ⟨hsz, _⟩, hents, _⟩ := map_of hm hG ho
   have ek := toVal_inv hkv hk
   obtain ⟨z, hz, hzr⟩ := run_zero_rv (w := w) (G := G) (F := F) (M := st.mem) hti
   have tup : ∀ (z : Value) (b : Bool) (y : AV), RV G F st.mem w z y → RV G F st.mem w (.tuple #[z, .bool b]) (.tu [y, .sc (.bool b)]) := fun z b y h =>
    .tu [z, .bool b] _ rfl (fun i h1 h2 => by
     match i, h1 with
     | 0, _ => exact h
     | 1, _ => exact .imm (.sc _))
   have hkeys : kt = kt' → ∀ e ∈ ents.toList, isKey P kt e.key = true := fun e0 e he => by
    obtain ⟨j, hj, rfl⟩ := List.mem_iff_getElem.1 he
    simp only [Array.length_toList] at hj
    obtain ⟨h1, _, h2⟩ := hents j hj (by omega)
    rw [e0]; simp only [Array.getElem_toList, h1]; exact h2
   have hrun : isKey P kt kv = true → kt = kt' → (Instr.lookup t (ρ m) (ρ k) ok).run P w = (match efind ents.toList kv 0 with
     | some (_, v) => .ok (if ok = true then .tuple #[v, .bool true] else v) w
     | none => .ok (if ok = true then .tuple #[z, .bool false] else z) w) := fun hkk e0 => by
    simp only [Instr.lookup, Sem.run_bind, run_under (tmap_inv ht), Result.andThen_ok, hval, run_getObj hb, Sem.run_pure, ek, run_checkKey' hkk, run_findKey hkk ents.toList (hkeys e0)]
    cases efind ents.toList kv 0 with
    | none => simp [hz]; try (split <;> simp_all)
    | some p => simp; try (split <;> simp_all)
   rcases efind_spec kv .junk ents.toList es 0 (by simpa using hsz) (fun j h1 h2 => by simpa using (hents j (by simpa using h1) h2).1) with ⟨a, b', c⟩ | ⟨j, h1, h2, a, b', c, d⟩
   ·rw [b']
    simp only
    intro h
    simp only [Bool.and_eq_true, decide_eq_true_eq] at h
    have := hrun h.2 h.1
    rw [a] at this
    refine .val hm (run_v this) ?_
    split
    ·exact tup _ _ _ hzr
    ·exact hzr
   ·rw [b']
    simp only
    intro h
    simp only [Bool.and_eq_true, decide_eq_true_eq] at h
    have := hrun h.2 h.1
    rw [a] at this
    refine .val hm (run_v this) ?_
    have hr := (hents j (by simpa using h1) h2).2.1
    split
    ·exact tup _ _ _ (by simpa using hr)
    ·simpa using hr
  ·trivial
 ·trivial
theorem ok_mapUpdate (hm : SimM P G F st.mem nx w) (hρ : ∀ x, RV G F st.mem w (ρ x) (opnd fr st x)) {t : TypeId} {m k x : Operand} {kt et : TypeId} {kv : Value} {i : Nat} {es : List (Value × AV)}
  (ht : tmap P t = some (kt, et)) (hk : toVal (od fr st true k) = some kv) (hmm : od fr st true m = .mp i) (ho : mlook st.mem i = some (.map kt es)) (hkk : isKey P kt kv = true) :
  OpOk P G F st.mem nx w id ((do Instr.mapUpdate t (ρ m) (ρ k) (ρ x); pure Next.skip : Sem Next).run P w) .junk (mset st.mem i (.map kt (eset es kv (od fr st true x)))) := by
 have hmv := od_rv hρ m
 rw [hmm] at hmv
 have ek := toVal_inv (od_rv hρ k) hk
 have hx := od_rv hρ x
 obtain ⟨b, hG, hval⟩ := hmv.inv_mp
 obtain ⟨ents, clock, hb, ⟨hsz, hbo⟩, hents, hF⟩ := map_of hm hG ho
 have hblt := (Array.getElem?_eq_some_iff.1 hb).1
 have hkeys : ∀ e ∈ ents.toList, isKey P kt e.key = true := fun e he => by
  obtain ⟨j, hj, rfl⟩ := List.mem_iff_getElem.1 he
  simp only [Array.length_toList] at hj
  obtain ⟨h1, _, h2⟩ := hents j hj (by omega)
  simp only [Array.getElem_toList, h1]; exact h2
 have fin : ∀ (ents' : Array MapEntry) (clock' : Nat) (es' : List (Value × AV)), (Instr.mapUpdate t (ρ m) (ρ k) (ρ x)).run P w = .ok () (putW w b (.map ents' clock')) → (ents'.size = es'.length ∧ BornOk ents' clock') ∧ bornsOf ents <+: bornsOf ents' →
   (∀ i (h1 : i < ents'.size) (h2 : i < es'.length), ents'[i].key = es'[i].1 ∧ RV G F st.mem w ents'[i].val es'[i].2 ∧ isKey P kt es'[i].1 = true) →
   OpOk P G F st.mem nx w id ((do Instr.mapUpdate t (ρ m) (ρ k) (ρ x); pure Next.skip : Sem Next).run P w) .junk (mset st.mem i (.map kt es')) := fun ents' clock' es' hrun hs he => by
  have hother : ∀ k, k ≠ b → (putW w b (.map ents' clock')).heap[k]? = w.heap[k]? := fun k hk => by
   simp only [putW]; rw [Array.getElem?_setIfInBounds_ne (Ne.symm hk)]
  refine OpOk.upd (u := undef) (w' := putW w b (.map ents' clock')) (F' := F) hm (.inr ⟨run_u hrun, rfl⟩) ho hG ⟨rfl, rfl⟩ (.set hb rfl rfl (fun _ _ h => by cases h; exact ⟨_, _, rfl, hs.2⟩)) (by simp [putW])
   (fun k hk hne => hother k (fun e => hne (by rw [e]; rfl))) (fun _ _ h => h) (fun b' o h => cell?_same (hother b' (fun e => hF o (by rw [← e]; exact h))) o) (fun _ _ h => .inl h) (fun b' hb' => .inl hb') (fun S => ?_) (.imm (.junk _))
  refine ⟨b, ents', clock', upG_self _ _ _, by simp only [putW]; rw [Array.getElem?_setIfInBounds_self_of_lt hblt], hs.1, fun j h1 h2 => ?_, hF⟩
  obtain ⟨q1, q2, q3⟩ := he j h1 h2
  exact ⟨q1, q2.step S (fun _ _ => trivial), q3⟩
 have hpre : ∀ (r : Option (Nat × Value)), efind ents.toList kv 0 = r → (Instr.mapUpdate t (ρ m) (ρ k) (ρ x)).run P w = (match r with
   | some (i, _) => ((Instr.keyThatStays (((ents[i]?).map (·.key)).getD kv) kv).run P w).andThen fun key w' => (setObj b (.map (ents.modify i fun e => { e with key, val := ρ x }) clock)).run P w'
   | none => (setObj b (.map (ents.push { key := kv, val := ρ x, born := clock }) (clock + 1))).run P w) := fun r hr => by
  simp only [Instr.mapUpdate, Sem.run_bind, run_under (tmap_inv ht), Result.andThen_ok, hval, run_getObj hb, ek, run_checkKey' hkk, run_findKey hkk ents.toList hkeys, hr]
  cases r with
  | none => rfl
  | some p => exact Sem.run_bind P w _ _
 rcases efind_spec kv (od fr st true x) ents.toList es 0 (by simpa using hsz) (fun j h1 h2 => by simpa using (hents j (by simpa using h1) h2).1) with ⟨a, b', c⟩ | ⟨j, h1, h2, a, b', c, d⟩
 ·rw [c]
  refine fin _ _ _ (by rw [hpre _ a]; exact run_setObj _ hb) ⟨⟨by simp [hsz], hbo.push _ _⟩, by rw [bornsOf, bornsOf, Array.toList_push, List.map_append]; exact List.prefix_append _ _⟩ (fun i h1 h2 => ?_)
  simp only [Array.size_push] at h1
  by_cases hlt : i < ents.size
  ·rw [Array.getElem_push_lt hlt, List.getElem_append_left (by omega)]
   exact hents i hlt (by omega)
  ·have e1 : i = ents.size := by omega
   subst e1
   rw [Array.getElem_push_eq, List.getElem_append_right (by omega)]
   simp only [hsz, Nat.sub_self, List.getElem_cons_zero]
   exact ⟨trivial, hx, hkk⟩
 ·rw [c]
  simp only [Array.length_toList] at h1
  simp only [Array.getElem_toList, Nat.zero_add] at a d
  have hk2 := hents j h1 h2
  have hst := run_keyThatStays (w := w) hkk (show isKey P kt ents[j].key = true by rw [hk2.1]; exact hk2.2.2) d
  refine fin (ents.modify j fun e => { e with key := kv, val := ρ x }) clock _ (by
   rw [hpre _ a]
   simp only [Array.getElem?_eq_getElem h1, Option.map_some, Option.getD_some, hst, Result.andThen_ok]
   exact run_setObj _ hb) ⟨⟨by simp [hsz], hbo.modify _ _ _⟩, by rw [bornsOf, bornsOf, BornOk.modify_eq]; exact List.prefix_refl _⟩ (fun i q1 q2 => ?_)
  simp only [Array.size_modify] at q1
  simp only [List.length_set] at q2
  rw [Array.getElem_modify, List.getElem_set]
  split
  ·exact ⟨rfl, hx, hkk⟩
  ·exact hents i q1 q2
theorem x_mapUpdate (hm : SimM P G F st.mem nx w) (hρ : ∀ x, RV G F st.mem w (ρ x) (opnd fr st x)) {t : TypeId} {m k x : Operand} {dst ty pos after guard} :
  EfOk P G F st.mem nx w id ((execOp ρ ⟨dst, .mapUpdate t m k x, ty, pos, after, guard⟩).run P w) (xop P fr st true id ⟨dst, .mapUpdate t m k x, ty, pos, after, guard⟩) := by
 simp only [xop]
 split
 ·rename_i kt et kv i ht hk hmm
  split
  ·rename_i kt' es ho
   intro h
   simp only [Bool.and_eq_true, decide_eq_true_eq] at h
   obtain ⟨rfl, hkk⟩ := h
   exact ok_mapUpdate hm hρ ht hk hmm ho hkk
  ·trivial
 ·trivial
theorem x_insert (hm : SimM P G F st.mem nx w) (hρ : ∀ x, RV G F st.mem w (ρ x) (opnd fr st x)) {t : TypeId} {m k x : Operand} {dst ty pos after guard} :
  EfOk P G F st.mem nx w id ((execOp ρ ⟨dst, .insert t m k x, ty, pos, after, guard⟩).run P w) (xop P fr st true id ⟨dst, .insert t m k x, ty, pos, after, guard⟩) := by
 simp only [xop]
 split
 ·rename_i kt et kv i ht hk hmm
  split
  ·rename_i kt' es ho
   intro h
   simp only [Bool.and_eq_true, decide_eq_true_eq] at h
   obtain ⟨rfl, hkk⟩ := h
   exact ok_mapUpdate hm hρ ht hk hmm ho hkk
  ·trivial
 ·trivial
end
end Go.Avl
