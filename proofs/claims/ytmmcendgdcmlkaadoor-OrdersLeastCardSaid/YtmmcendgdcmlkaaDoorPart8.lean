/-
  From a law's row to its contract: arguments opened, and read again behind the call.
  How the arguments of the orders' laws read, and the table of the kinds of faults.
  Lemmas.
-/
import Derived.ProofKit
import Derived.OpenShut
import Derived.Test.YtmmcendgdcmlkaaDoorCards
import Derived.Test.YtmmcendgdcmlkaaDoorTie
import Derived.LaidMore
import Derived.Stop.Joined
import Derived.Test.YtmmcendgdcmlkaaDoorPart7
set_option linter.unusedSimpArgs false
set_option linter.unusedVariables false
set_option linter.unnecessarySimpa false
set_option linter.deprecated false
namespace Go.Avl
open Go Go.ChangeShapes Go.RowKit
def Live (w : World) : Nat → Nat → Prop := fun b _ => b < w.heap.size
section
variable {H : Type} {enc : TypeId × Value → H} {P : Program} {w : World} {α β : Type}
def Fits (P : Program) (t : TypeId) (d : DataW H) : Prop := ∀ n ∈ d.weights P t, n ≤ reachBytes
theorem fits_all {P : Program} {e : TypeId} : ∀ {l : List (DataW H)}, (∀ n ∈ DataW.weightsAll P e l, n ≤ reachBytes) → ∀ d ∈ l, Fits P e d
 | [], _, d, hd => by cases hd
 | a :: l, h, d, hd => by
   simp only [DataW.weightsAll, List.mem_append] at h
   rcases List.mem_cons.1 hd with rfl | hd
   ·exact fun n hn => h n (.inl hn)
   ·exact fits_all (fun n hn => h n (.inr hn)) d hd
theorem fits_each {P : Program} : ∀ {ts : List TypeId} {l : List (DataW H)}, (∀ n ∈ DataW.weightsEach P ts l, n ≤ reachBytes) → ∀ (i : Nat) t d, ts[i]? = some t → l[i]? = some d → Fits P t d
 | [], _, _, i, t, d, h1, _ => by simp at h1
 | _ :: _, [], _, i, t, d, _, h2 => by simp at h2
 | a :: ts, b :: l, h, i, t, d, h1, h2 => by
   simp only [DataW.weightsEach, List.mem_append] at h
   cases i with
   | zero =>
     simp only [List.getElem?_cons_zero, Option.some.injEq] at h1 h2
     subst h1; subst h2
     exact fun n hn => h n (.inl hn)
   | succ i => exact fits_each (fun n hn => h n (.inr hn)) i t d (by simpa using h1) (by simpa using h2)
def Reads (enc : TypeId × Value → H) (P : Program) (w : World) (t : TypeId) (f : α → List AV) (Ok : α → Prop) : Prop :=
 ∀ fuel cs x, Fits P t x.1 → DataW.trod enc P w 0 (fun _ => true) true fuel t cs = some x →
   ∃ a, Ok a ∧ Imms (Live w) w cs (f a) ∧ ∀ v ∈ cs, v.oneCell' = true
theorem Imms.one {F : Nat → Nat → Prop} {v : Value} {x : AV} (h : Imm F w v x) : Imms F w [v] [x] :=
 ⟨rfl, fun i h1 _ => by have : i = 0 := by simpa using h1
                        subst this; exact h⟩
theorem Imms.append {F : Nat → Nat → Prop} {vs vs' : List Value} {xs xs' : List AV} (h : Imms F w vs xs) (h' : Imms F w vs' xs') : Imms F w (vs ++ vs') (xs ++ xs') := by
 have e := h.1
 have e' := h'.1
 refine ⟨by simp [e, e'], fun i h1 h2 => ?_⟩
 by_cases hi : i < vs.length
 ·rw [List.getElem_append_left hi, List.getElem_append_left (by omega)]; exact h.2 i _ _
 ·rw [List.getElem_append_right (by omega), List.getElem_append_right (by omega)]
  have := h'.2 (i - vs.length) (by simp at h1; omega) (by simp at h2; omega)
  simpa only [e] using this
theorem Reads.mono {t : TypeId} {f : α → List AV} {Ok : α → Prop} {g : β → List AV} {Ok' : β → Prop} (h : Reads enc P w t f Ok) (hq : ∀ a, Ok a → ∃ b, Ok' b ∧ g b = f a) : Reads enc P w t g Ok' :=
 fun fuel cs x hs ht => let ⟨a, h1, h2, h3⟩ := h fuel cs x hs ht; let ⟨b, k1, k2⟩ := hq a h1; ⟨b, k1, by rw [k2]; exact h2, h3⟩
theorem Reads.int {t : TypeId} {k : IntKind} (ht : P.underlying t = some (.int k)) : Reads enc P w t (fun n : Int => [.sc (.int k n)]) (fun n => (Lit.int k n).wf = true) := fun fuel cs x _ h => by
 obtain ⟨n, rfl, rfl, hw⟩ := DataW.trod_int ht h
 exact ⟨n, hw, .one (.sc _), by simp [Value.oneCell']⟩
theorem Reads.bool {t : TypeId} (ht : P.underlying t = some .bool) : Reads enc P w t (fun b : Bool => [.sc (.bool b)]) (fun _ => True) := fun fuel cs x _ h => by
 obtain ⟨b, rfl, rfl⟩ := DataW.trod_bool ht h
 exact ⟨b, trivial, .one (.sc _), by simp [Value.oneCell']⟩
theorem pick {α : Type} {p : Nat → α → Prop} (n : Nat) (h : ∀ i, i < n → ∃ a, p i a) : ∃ l : List α, l.length = n ∧ ∀ i (hi : i < l.length), p i l[i] := by
 induction n with
 | zero => exact ⟨[], rfl, fun i hi => by simp at hi⟩
 | succ n ih =>
   obtain ⟨l, h1, h2⟩ := ih fun i hi => h i (by omega)
   obtain ⟨a, ha⟩ := h n (by omega)
   refine ⟨l ++ [a], by simp [h1], fun i hi => ?_⟩
   by_cases h3 : i < l.length
   ·rw [List.getElem_append_left h3]; exact h2 i h3
   ·have : i = l.length := by simp at hi; omega
    subst this
    rw [List.getElem_append_right (Nat.le_refl _)]
    simpa [h1] using ha
theorem Reads.slice {t e : TypeId} {f : α → List AV} {Ok : α → Prop} (ht : P.underlying t = some (.slice e)) (he : Reads enc P w e f Ok) (hz : ∀ a, (f a).length = P.cellsOf e) (hz0 : 0 < P.cellsOf e) :
  Reads enc P w t (fun x : Bool × List α => [.sl x.1 (x.2.map f) .unk]) (fun x => (∀ y ∈ x.2, Ok y) ∧ (x.1 = true → x.2 = []) ∧ x.2.length * P.bytesOf e ≤ reachBytes) := fun fuel cs x hs h => by
 rcases DataW.trod_slice ht h with ⟨rfl, rfl⟩ | ⟨a, len, cap, elems, rest, n, rfl, rfl, rfl, _, hlc, hcm, hlen, hel, hrest, _⟩
 ·exact ⟨(true, []), ⟨by simp, fun _ => rfl, by simp⟩, .one (.nil _ (.inl rfl)), by simp [Value.oneCell']⟩
 unfold Fits at hs
 simp only [DataW.weights, ht, List.mem_cons, List.mem_append, List.length_map] at hs
 have hbytes : len * P.bytesOf e ≤ reachBytes := by
  have := hs _ (.inl rfl)
  rw [hlen, Nat.add_mul] at this; omega
 have hfit : ∀ i (hi : i < elems.length), Fits P e elems[i].1 := fun i hi =>
  fits_all (l := elems.map (·.1)) (fun n hn => hs n (.inr (.inl hn))) _ (List.mem_map.2 ⟨_, List.getElem_mem hi, rfl⟩)
 by_cases hc0 : cap = 0
 ·have hl0 : len = 0 := by omega
  subst hc0; subst hl0
  exact ⟨(false, []), ⟨by simp, by simp, by simp⟩, .one (.sz a _ (.inl rfl)), by simp [Value.oneCell']⟩
 have hfirst : ∃ v, w.cell? a = some v := by
  have hcells : ∃ cs', w.cells? 0 a (P.cellsOf e) = some cs' := by
   by_cases hl0 : len = 0
   ·subst hl0
    have h1 := (hrest rfl).2 0 (by omega)
    rw [List.getElem?_eq_getElem (by rw [(hrest rfl).1]; omega)] at h1
    obtain ⟨cs', h2, _⟩ := Option.bind_eq_some_iff.1 h1
    refine ⟨cs', ?_⟩
    simpa [Addr.add] using h2
   ·have h1 := hel 0 (by omega)
    rw [List.getElem?_eq_getElem (by omega)] at h1
    obtain ⟨cs', h2, _⟩ := Option.bind_eq_some_iff.1 h1
    refine ⟨cs', ?_⟩
    simpa [Addr.add] using h2
  obtain ⟨cs', h2⟩ := hcells
  obtain ⟨_, q1, q2⟩ := World.cells?_some h2
  have := q2 0 hz0
  rw [List.getElem?_eq_getElem (by omega)] at this
  exact ⟨_, by simpa [Addr.add] using this⟩
 have hsp : a.spot = none := by
  obtain ⟨v, hv⟩ := hfirst
  unfold World.cell? at hv
  cases hsp : a.spot with
  | none => rfl
  | some k =>
    rw [hsp] at hv
    split at hv <;> simp at hv
 obtain ⟨b, off, spt⟩ := a
 cases hsp
 have key : ∀ i, i < len → ∃ y : α, Ok y ∧ ∃ cs', cs'.length = P.cellsOf e ∧ (∀ j (hj : j < cs'.length), w.cell? ⟨b, off + i * P.cellsOf e + j, none⟩ = some cs'[j]) ∧ Imms (Live w) w cs' (f y) ∧ ∀ v ∈ cs', v.oneCell' = true := fun i hi => by
  have h1 := hel i hi
  rw [List.getElem?_eq_getElem (by omega)] at h1
  obtain ⟨cs', h2, h3⟩ := Option.bind_eq_some_iff.1 h1
  obtain ⟨y, k1, k2, k3⟩ := he _ _ _ (hfit i (by omega)) h3
  obtain ⟨_, q1, q2⟩ := World.cells?_some h2
  refine ⟨y, k1, cs', q1, fun j hj => ?_, k2, k3⟩
  have := q2 j (by omega)
  rw [List.getElem?_eq_getElem hj] at this
  rw [← this]
  congr 1
  unfold Addr.add
  by_cases e1 : i * P.cellsOf e = 0
  ·rw [if_pos e1]
   by_cases e2 : j = 0
   ·subst e2; simp [e1]
   ·rw [if_neg e2]; simp [e1]
  ·rw [if_neg e1]
   by_cases e2 : j = 0
   ·subst e2; simp
   ·rw [if_neg e2]
 obtain ⟨l, hl, hp⟩ := pick len key
 refine ⟨(false, l), ⟨fun y hy => ?_, by simp, by rw [hl]; exact hbytes⟩, .one ?_, by simp [Value.oneCell']⟩
 ·obtain ⟨i, hi, rfl⟩ := List.getElem_of_mem hy
  exact (hp i hi).1
 ·
  have hcell : ∀ i j, i < len → j < P.cellsOf e → ∃ v, w.cell? ⟨b, off + i * P.cellsOf e + j, none⟩ = some v ∧ v.oneCell' = true ∧ ∀ (h : i < l.length) (h' : j < (f l[i]).length), Imm (Live w) w v (f l[i])[j] := fun i j hi hj => by
   obtain ⟨_, cs', q1, q2, q3, q4⟩ := hp i (by omega)
   exact ⟨cs'[j], q2 j (by omega), q4 _ (List.getElem_mem _), fun h h' => q3.2 j (by omega) h'⟩
  have hv := fun i j => show ∃ v, i < len → j < P.cellsOf e → w.cell? ⟨b, off + i * P.cellsOf e + j, none⟩ = some v ∧ v.oneCell' = true ∧ ∀ (h : i < l.length) (h' : j < (f l[i]).length), Imm (Live w) w v (f l[i])[j] from by
   by_cases h : i < len ∧ j < P.cellsOf e
   ·obtain ⟨v, hv⟩ := hcell i j h.1 h.2; exact ⟨v, fun _ _ => hv⟩
   ·exact ⟨undef, fun h1 h2 => absurd ⟨h1, h2⟩ h⟩
  have hvs : ∀ i j, ∃ v, v = Classical.choose (hv i j) := fun i j => ⟨_, rfl⟩
  have e0 : (l.map f).length = len := by simp [hl]
  have := Imm.sl (F := Live w) (w := w) b off cap (P.cellsOf e) (l.map f) .unk (fun i j => Classical.choose (hv i j)) (by rw [e0]; exact hlc) (.inl rfl) (fun i hi => by rw [List.getElem_map]; exact hz _)
   (fun i j hi hj => by
    obtain ⟨k1, k2, _⟩ := Classical.choose_spec (hv i j) (by rw [← e0]; exact hi) hj
    refine ⟨?_, k1, k2⟩
    unfold World.cell? at k1
    show b < w.heap.size
    cases hb : w.heap[b]? with
    | none => simp [hb] at k1
    | some o => exact (Array.getElem?_eq_some_iff.1 hb).1)
   (fun i j h h' => by
    have h'2 := h'
    rw [List.getElem_map, hz] at h'2
    have := (Classical.choose_spec (hv i j) (by rw [← e0]; exact h) h'2).2.2 (by simpa using h) (by rw [hz]; exact h'2)
    simpa only [List.getElem_map] using this)
  rw [e0] at this
  exact this
def RdF (enc : TypeId × Value → H) (P : Program) (w : World) (L : List Field) (k tot : Nat) (f : α → List AV) (Ok : α → Prop) : Prop :=
 ∀ (n : Nat) (cs : List Value), cs.length = tot → (∀ fd ∈ L, ∃ y, DataW.trod enc P w 0 (fun _ => true) true n fd.type ((cs.drop fd.offset).take (P.cellsOf fd.type)) = some y ∧ Fits P fd.type y.1) →
   ∃ a, Ok a ∧ Imms (Live w) w (cs.drop k) (f a) ∧ ∀ v ∈ cs.drop k, v.oneCell' = true
theorem RdF.nil {tot : Nat} : RdF enc P w [] tot tot (fun _ : Unit => []) (fun _ => True) := fun n cs hl _ => by
 have : cs.drop tot = [] := by rw [List.drop_eq_nil_iff]; omega
 rw [this]
 exact ⟨(), trivial, ⟨rfl, fun i h => by simp at h⟩, by simp⟩
theorem RdF.cons {fd : Field} {fs : List Field} {k k' sz tot : Nat} {f : α → List AV} {Ok : α → Prop} {g : β → List AV} {Ok' : β → Prop} (ho : fd.offset = k) (hz : P.cellsOf fd.type = sz) (hk : k + sz = k')
  (h : Reads enc P w fd.type f Ok) (hs : RdF enc P w fs k' tot g Ok') : RdF enc P w (fd :: fs) k tot (fun x : α × β => f x.1 ++ g x.2) (fun x => Ok x.1 ∧ Ok' x.2) := fun n cs hl hf => by
 obtain ⟨y, hy, hyf⟩ := hf fd List.mem_cons_self
 obtain ⟨a, h1, h2, h3⟩ := h _ _ _ hyf hy
 obtain ⟨b, k1, k2, k3⟩ := hs n cs hl fun fd' h' => hf fd' (List.mem_cons_of_mem _ h')
 have e : cs.drop k = (cs.drop k).take sz ++ cs.drop k' := by
  rw [← hk, ← List.drop_drop, List.take_append_drop]
 rw [ho, hz] at h2 h3
 refine ⟨(a, b), ⟨h1, k1⟩, by rw [e]; exact h2.append k2, fun v hv => ?_⟩
 rw [e, List.mem_append] at hv
 rcases hv with hv | hv
 ·exact h3 v hv
 ·exact k3 v hv
theorem Reads.struct {t : TypeId} {fs : Array Field} {tot : Nat} {f : α → List AV} {Ok : α → Prop} (ht : P.underlying t = some (.struct fs)) (hz : P.cellsOf t = tot) (h : RdF enc P w fs.toList 0 tot f Ok) : Reads enc P w t f Ok := fun fuel cs x hs hx => by
 obtain ⟨xs, n, _, rfl, hl, hlen, hf⟩ := DataW.trod_struct ht hx
 unfold Fits at hs
 simp only [DataW.weights, ht] at hs
 obtain ⟨a, h1, h2, h3⟩ := h n cs (hl.trans hz) fun fd hfd => by
  obtain ⟨i, hi, rfl⟩ := List.getElem_of_mem hfd
  have := hf i fs.toList[i] (by simp)
  have hix : i < xs.length := by simp at hi; omega
  rw [List.getElem?_eq_getElem hix] at this
  exact ⟨_, this, fits_each hs i _ _ (by rw [List.getElem?_map, List.getElem?_eq_getElem hi]; rfl) (by rw [List.getElem?_map, List.getElem?_eq_getElem hix]; rfl)⟩
 exact ⟨a, h1, by simpa using h2, by simpa using h3⟩
theorem arr_go {sz : Nat} {f : α → List AV} {Ok : α → Prop} : ∀ (n : Nat) (cs : List Value), cs.length = n * sz →
  (∀ i, i < n → ∃ a, Ok a ∧ Imms (Live w) w ((cs.drop (i * sz)).take sz) (f a) ∧ ∀ v ∈ (cs.drop (i * sz)).take sz, v.oneCell' = true) →
  ∃ l : List α, l.length = n ∧ (∀ a ∈ l, Ok a) ∧ Imms (Live w) w cs (l.map f).flatten ∧ ∀ v ∈ cs, v.oneCell' = true
 | 0, cs, hl, _ => by
   have : cs = [] := by cases cs with
    | nil => rfl
    | cons a l => simp at hl
   subst this
   exact ⟨[], rfl, by simp, ⟨rfl, fun i h => by simp at h⟩, by simp⟩
 | n + 1, cs, hl, h => by
   obtain ⟨a, h1, h2, h3⟩ := h 0 (by omega)
   obtain ⟨l, k1, k2, k3, k4⟩ := arr_go (sz := sz) n (cs.drop sz) (by rw [List.length_drop, hl, Nat.add_mul]; omega) fun i hi => by
    have := h (i + 1) (by omega)
    rwa [List.drop_drop, show sz + i * sz = (i + 1) * sz by rw [Nat.add_mul]; omega]
   simp only [Nat.zero_mul, List.drop_zero] at h2 h3
   have e := List.take_append_drop sz cs
   refine ⟨a :: l, by simp [k1], fun b hb => ?_, ?_, fun v hv => ?_⟩
   ·rcases List.mem_cons.1 hb with rfl | hb
    ·exact h1
    ·exact k2 b hb
   ·rw [← e]; simpa using h2.append k3
   ·rw [← e, List.mem_append] at hv
    rcases hv with hv | hv
    ·exact h3 v hv
    ·exact k4 v hv
theorem Reads.array {t e : TypeId} {n sz : Nat} {f : α → List AV} {Ok : α → Prop} (ht : P.underlying t = some (.array n e)) (hz : P.cellsOf e = sz) (ha : P.cellsOf t = n * sz) (h : Reads enc P w e f Ok) :
  Reads enc P w t (fun l : List α => (l.map f).flatten) (fun l => l.length = n ∧ ∀ a ∈ l, Ok a) := fun fuel cs x hs hx => by
 obtain ⟨xs, m, _, rfl, hl, hlen, hf⟩ := DataW.trod_array ht hx
 rw [ha] at hl
 rw [hz] at hf
 unfold Fits at hs
 simp only [DataW.weights, ht] at hs
 obtain ⟨l, h1, h2, h3, h4⟩ := arr_go n cs hl fun i hi => by
  have := hf i hi
  rw [List.getElem?_eq_getElem (by omega)] at this
  exact h _ _ _ (fits_all hs _ (List.mem_map.2 ⟨_, List.getElem_mem _, rfl⟩)) this
 exact ⟨l, ⟨h1, h2⟩, h3, h4⟩
theorem Reads.imm_struct {t : TypeId} {fs : Array Field} {f : α → List AV} {Ok : α → Prop} {r : Reach} {b0 : Nat} {v : Value} {d : DataW H} {ps : List MemPlace} (ht : P.underlying t = some (.struct fs)) (h : Reads enc P w t f Ok)
  (hv : Value.okWide P w r b0 t v) (hw : Fits P t d) (hd : DataW.Trod enc P w 0 (fun _ => true) true t v d ps) : ∃ a, Ok a ∧ Imm (Live w) w v (.ag (f a)) := by
 obtain ⟨cs, rfl, _⟩ := WideShapes.okWide_struct ht hv
 obtain ⟨fuel, hd⟩ := hd
 obtain ⟨a, h1, h2, _⟩ := h _ _ _ hw hd
 refine ⟨a, h1, ?_⟩
 have : (Value.agg cs) = .agg cs.toList.toArray := by simp
 rw [this]
 exact .ag _ _ h2.1 h2.2
theorem Reads.imm_slice {t e : TypeId} {f : α → AV} {Ok : α → Prop} {r : Reach} {b0 : Nat} {v : Value} {d : DataW H} {ps : List MemPlace} (ht : P.underlying t = some (.slice e)) (h : Reads enc P w t (fun a => [f a]) Ok)
  (hv : Value.okWide P w r b0 t v) (hw : Fits P t d) (hd : DataW.Trod enc P w 0 (fun _ => true) true t v d ps) : ∃ a, Ok a ∧ Imm (Live w) w v (f a) := by
 have hc : v.cells = #[v] := by
  simp only [Value.okWide, ht, Cell.okWide] at hv
  cases v <;> simp_all [Cell.ok, Value.cells]
 obtain ⟨fuel, hd⟩ := hd
 obtain ⟨a, h1, h2, _⟩ := h _ _ _ hw hd
 rw [hc] at h2
 exact ⟨a, h1, h2.2 0 (by simp) (by simp)⟩
theorem Grown.below {F F' : Nat → Nat → Prop} {w' : World} (g : Avl.Grown F w F' w') : Below w.heap.size w w' := ⟨g.kept.os, g.kept.tape, g.kept.output, g.size, g.old⟩
theorem trodAll_stays (hl : laidOutB P = true) {w' : World} (hb : Below w.heap.size w w') {spf : Nat → Bool} : ∀ {ts : List TypeId} {vs : List Value} {ds : List (DataW H)} {ps : List MemPlace}, (∀ t ∈ ts, P.readableRec t = true ∧ t < P.types.size) →
  DataW.TrodAll enc P w 0 (fun _ => true) true ts vs ds ps → (∀ p ∈ ps, p.block < w.heap.size) → (∀ p ∈ ps, spf p.block = true) → DataW.TrodAll enc P w' 0 spf true ts vs ds ps
 | [], [], [], _, _, h, _, _ => h
 | t :: ts, v :: vs, d :: ds, _, hr, ⟨p, q, h1, h2, e⟩, hlt, hsp => by
   subst e
   refine ⟨p, q, ?_, trodAll_stays hl hb (fun t ht => hr t (List.mem_cons_of_mem _ ht)) h2 (fun x hx => hlt x (List.mem_append_right _ hx)) fun x hx => hsp x (List.mem_append_right _ hx), rfl⟩
   have := hr t List.mem_cons_self
   exact WideElems.Trod_stays hl this.1 this.2 h1 (fun x hx => hb.same (hlt x (List.mem_append_left _ hx))) fun x hx => hsp x (List.mem_append_left _ hx)
 | [], _ :: _, _, _, _, h, _, _ => h.elim
 | [], [], _ :: _, _, _, h, _, _ => h.elim
 | _ :: _, [], _, _, _, h, _, _ => h.elim
 | _ :: _, _ :: _, [], _, _, h, _, _ => h.elim
theorem law_calls {f : FuncId} {fn : Func} {s : ChangeSpec} {apart fresh handsOn again : Bool} {args : Array Value} {avs : List AV} {ds : List (DataW H)} {before : List MemPlace} {tb : TypeId}
  (hl : laidOutB P = true) (hrd : (fn.params.toList.all fun t => P.readableRec t && decide (t < P.types.size)) = true) (hrt : fn.resultTypes = #[tb]) (htb : P.underlying tb = some .bool) (hvars : s.vars = [])
  (hs : s.fn H (ds ++ []) = { results := [.lit (.bool true)], args := ds })
  (h : PureIs P f avs (.sc (.bool true))) (hi : Imms (Live w) w args.toList avs) (hW : DataW.Whole enc P fn.params.toList s.vars apart w args.toList ds [] before) (hgl : Globs (Live w) w := by exact fun g vs hg => by cases hg) :
  Calls P f args w fun e W' => ∃ v, e = .returned v ∧ s.post enc P fn apart fresh handsOn again w args v W' := by
 have hW' := hW
 obtain ⟨p, q, hA, hV, rfl, hfz, hnd⟩ := hW
 rw [hvars] at hV
 obtain ⟨_, rfl⟩ := trodVars_none hV
 have hc := callsIn_wide.1 (h.2 (Live w) w args.toList ⟨fun _ _ h => h, hgl⟩ hi)
 rw [Array.toArray_toList] at hc
 refine hc.mono fun e W' ⟨v, F', he, hr, g⟩ => ?_
 have hv : v = .bool true := by cases hr; rfl
 subst hv
 have hb := Grown.below g
 refine ⟨_, he, post_of_same (pa := p) (pv := []) (by simpa using hW') (fun _ _ _ => ?_) (fun sp hsp => ?_) (fun _ _ => ?_) (by simp) (hb.frame _) g.kept.froz ?_⟩
 ·rw [hs, hrt]; exact trodAll_mk1 (shut_bool htb true)
 ·rw [hs]
  refine trodAll_stays hl hb (fun t ht => ?_) hA (fun x hx => hW'.lt x (by simpa using hx)) fun x hx => hsp x (by simpa using hx)
  have := List.all_eq_true.1 hrd t ht
  simpa using this
 ·rw [hvars, hs]; exact rfl
 ·exact ok_one hrt rfl (okWide_bool_mk htb true)
end
open Go Go.Proofs
end Go.Avl
namespace Go.Proofs.YtmmcendgdcmlkaaDoor
open Go Go.Avl Go.Proofs Go.ChangeShapes Go.RowKit
theorem Tryd.own : ownKnob Tryd.prog.godebug = none := by kernel_rfl
theorem Tryd.laidOut : laidOutB Tryd.prog = true := by kernel_rfl
abbrev laidT : List (String × DataW Unit) := [("gauntlet/faults.table", Rows.laid_gauntlet_faults_table)]
section
variable {H : Type} {enc : TypeId × Value → H} {w : World}
theorem u8wf {n : Int} (h : (Lit.int .u8 n).wf = true) : 0 ≤ n ∧ n < 256 := by
 simp [Lit.wf, IntKind.min, IntKind.max, IntKind.signed, IntKind.bits] at h
 omega
theorem len_of {n b : Nat} (hb : 1 ≤ b) (h : n * b ≤ reachBytes) : (n : Int) ≤ 140737488355328 := by
 have h1 : n * 1 ≤ n * b := Nat.mul_le_mul_left n hb
 have h2 : reachBytes ≤ 140737488355328 := by decide
 omega
theorem rd_u8 : Reads enc Tryd.prog w 5 u8C (fun n => 0 ≤ n ∧ n < 256) := (Reads.int (by kernel_rfl)).mono fun a h => ⟨a, u8wf h, rfl⟩
theorem rd_u8' : Reads enc Tryd.prog w 5 (fun n : Int => [.sc (.int .u8 n)]) (fun n => 0 ≤ n ∧ n < 256) := rd_u8
theorem u16wf {n : Int} (h : (Lit.int .u16 n).wf = true) : 0 ≤ n ∧ n < 65536 := by
 simp [Lit.wf, IntKind.min, IntKind.max, IntKind.signed, IntKind.bits] at h
 omega
theorem rd_u16 : Reads enc Tryd.prog w 25 u16C (fun n => 0 ≤ n ∧ n < 65536) := (Reads.int (by kernel_rfl)).mono fun a h => ⟨a, u16wf h, rfl⟩
theorem rd_u16s : Reads enc Tryd.prog w 22 (fun x : Bool × List Int => [.sl x.1 (x.2.map u16C) .unk]) (fun x => (∀ e ∈ x.2, 0 ≤ e ∧ e < 65536) ∧ (x.2.length : Int) ≤ 140737488355328) :=
 (Reads.slice (by kernel_rfl) rd_u16 (fun a => by rw [show Program.cellsOf Tryd.prog 25 = 1 by kernel_rfl]; rfl) (by rw [show Program.cellsOf Tryd.prog 25 = 1 by kernel_rfl]; exact Nat.succ_pos _)).mono fun a h => ⟨a, ⟨h.1, len_of (b := Program.bytesOf Tryd.prog 25) (by decide +kernel) h.2.2⟩, rfl⟩
theorem rd_LM : Reads enc Tryd.prog w 24 LM.cells LM.Ok := by
 have := (Reads.struct (enc := enc) (w := w) (tot := 5) Tryd.underlying24 (by kernel_rfl) (.cons (sz := 1) rfl (by kernel_rfl) rfl rd_u8 (.cons (sz := 1) rfl (by kernel_rfl) rfl rd_u8 (.cons (sz := 1) rfl (by kernel_rfl) rfl rd_u8 (.cons (sz := 1) rfl (by kernel_rfl) rfl (Reads.bool Tryd.underlying4)
  (.cons (sz := 1) rfl (by kernel_rfl) rfl rd_u16s .nil))))))
 exact this.mono fun a h => ⟨⟨a.1, a.2.1, a.2.2.1, a.2.2.2.1, a.2.2.2.2.1.1, a.2.2.2.2.1.2, .unk⟩, ⟨h.1.1, h.2.1.1, h.2.2.1.1, h.2.2.2.2.1.1⟩, rfl⟩
end
theorem gTable : Tryd.prog.globalNamed "gauntlet/faults.table" = some 0 := by kernel_rfl
theorem tTable : (Tryd.prog.globals[0]?).map (·.type) = some 139 := by kernel_rfl
theorem string_eq {s t : ByteArray} (h : s.data.toList = t.data.toList) : s = t := by
 obtain ⟨⟨l⟩⟩ := s; obtain ⟨⟨k⟩⟩ := t
 simp only at h
 rw [h]
set_option maxRecDepth 100000 in
theorem kind_cells {W : World} {m : Nat} {cs : List Value} {n : List UInt8} {a b c : Bool} {ps : List MemPlace} (h : DataW.trod (fun _ => ()) Tryd.prog W 0 (fun _ => true) false m 138 cs = some (.agg [.lit (.string n), .lit (.bool a), .lit (.bool b), .lit (.bool c)], ps)) :
  cs = [kindN n, .bool a, .bool b, .bool c] := by
 obtain ⟨xs, k, _, he, hl, hlen, hf⟩ := DataW.trod_struct Tryd.underlying138 h
 have hl4 : cs.length = 4 := hl.trans (by kernel_rfl)
 match cs, hl4 with
 | [c0, c1, c2, c3], _ =>
   have h0 : DataW.trod (fun _ => ()) Tryd.prog W 0 (fun _ => true) false k 9 (([c0, c1, c2, c3].drop 0).take (Program.cellsOf Tryd.prog 9)) = xs[0]? := hf 0 _ rfl
   have h1 : DataW.trod (fun _ => ()) Tryd.prog W 0 (fun _ => true) false k 4 (([c0, c1, c2, c3].drop 1).take (Program.cellsOf Tryd.prog 4)) = xs[1]? := hf 1 _ rfl
   have h2 : DataW.trod (fun _ => ()) Tryd.prog W 0 (fun _ => true) false k 4 (([c0, c1, c2, c3].drop 2).take (Program.cellsOf Tryd.prog 4)) = xs[2]? := hf 2 _ rfl
   have h3 : DataW.trod (fun _ => ()) Tryd.prog W 0 (fun _ => true) false k 4 (([c0, c1, c2, c3].drop 3).take (Program.cellsOf Tryd.prog 4)) = xs[3]? := hf 3 _ rfl
   have e9 : Program.cellsOf Tryd.prog 9 = 1 := by kernel_rfl
   have e4 : Program.cellsOf Tryd.prog 4 = 1 := by kernel_rfl
   simp only [e9, e4, List.drop_zero, List.drop_succ_cons, List.take_succ_cons, List.take_zero] at h0 h1 h2 h3
   match xs, hlen with
   | [x0, x1, x2, x3], _ =>
     simp only [Prod.mk.injEq, DataW.agg.injEq, List.map_cons, List.map_nil, List.cons.injEq, and_true] at he
     obtain ⟨⟨e0, e1, e2, e3⟩, _⟩ := he
     obtain ⟨s, q0, r0, _⟩ := DataW.trod_string Tryd.underlying9 h0
     obtain ⟨b1, q1, r1⟩ := DataW.trod_bool Tryd.underlying4 h1
     obtain ⟨b2, q2, r2⟩ := DataW.trod_bool Tryd.underlying4 h2
     obtain ⟨b3, q3, r3⟩ := DataW.trod_bool Tryd.underlying4 h3
     rw [r0] at e0; rw [r1] at e1; rw [r2] at e2; rw [r3] at e3
     simp only [DataW.lit.injEq, Lit.string.injEq, Lit.bool.injEq] at e0 e1 e2 e3
     simp only [List.cons.injEq, and_true] at q0 q1 q2 q3
     subst q0 q1 q2 q3 e1 e2 e3
     have : s = ⟨n.toArray⟩ := string_eq (by simpa using e0.symm)
     rw [this]; rfl
set_option maxRecDepth 100000 in
theorem globs_of {W : World} (h : laidMetH Tryd.prog laidT W) : Globs (Live W) W := by
 rw [MakeChecks.laidMetH_plain _ _ _ (by kernel_rfl)] at h
 obtain ⟨ps, ⟨g, t, cs, fuel, p, q, hg, ht, hvar, hd, _, _⟩, _, _⟩ := h
 obtain rfl := Option.some.inj (gTable.symm.trans hg)
 obtain rfl := Option.some.inj (tTable.symm.trans ht)
 obtain ⟨xs, m, _, he, hl, hlen, hf⟩ := DataW.trod_array Tryd.underlying139 hd
 have e138 : Program.cellsOf Tryd.prog 138 = 4 := by kernel_rfl
 have hl20 : cs.toList.length = 20 := hl.trans (by kernel_rfl)
 have hcs : cs.toList = kindTab := by
  rw [e138] at hf
  match xs, hlen with
  | [x0, x1, x2, x3, x4], _ =>
    have h0 := hf 0 (by decide)
    have h1 := hf 1 (by decide)
    have h2 := hf 2 (by decide)
    have h3 := hf 3 (by decide)
    have h4 := hf 4 (by decide)
    simp only [Rows.laid_gauntlet_faults_table, Prod.mk.injEq, DataW.agg.injEq, List.map_cons, List.map_nil, List.cons.injEq, and_true] at he
    obtain ⟨⟨e0, e1, e2, e3, e4⟩, _⟩ := he
    obtain ⟨d0, p0⟩ := x0
    obtain ⟨d1, p1⟩ := x1
    obtain ⟨d2, p2⟩ := x2
    obtain ⟨d3, p3⟩ := x3
    obtain ⟨d4, p4⟩ := x4
    simp only at e0 e1 e2 e3 e4
    subst e0 e1 e2 e3 e4
    have k0 := kind_cells h0
    have k1 := kind_cells h1
    have k2 := kind_cells h2
    have k3 := kind_cells h3
    have k4 := kind_cells h4
    have key : cs.toList = (cs.toList.drop (0 * 4)).take 4 ++ ((cs.toList.drop (1 * 4)).take 4 ++ ((cs.toList.drop (2 * 4)).take 4 ++ ((cs.toList.drop (3 * 4)).take 4 ++ (cs.toList.drop (4 * 4)).take 4))) := by
     have e : (cs.toList.drop (4 * 4)).take 4 = cs.toList.drop (4 * 4) := List.take_of_length_le (by rw [List.length_drop, hl20]; decide)
     rw [e]
     have s : ∀ k, cs.toList.drop (k * 4) = (cs.toList.drop (k * 4)).take 4 ++ cs.toList.drop ((k + 1) * 4) := fun k => by
      rw [show (k + 1) * 4 = k * 4 + 4 by omega, ← List.drop_drop, List.take_append_drop]
     have z : cs.toList = cs.toList.drop (0 * 4) := by simp
     exact z.trans ((s 0).trans (congrArg _ ((s 1).trans (congrArg _ ((s 2).trans (congrArg _ ((s 3).trans (congrArg _ rfl))))))))
    rw [k0, k1, k2, k3, k4] at key
    rw [key]; rfl
 intro g vs hgv j hj
 match g, hgv with
 | 0, hgv =>
   have hgv : kindTab = vs := by simpa [laidAt] using hgv
   subst hgv
   have hc := World.var?_cell gTable hvar j
   have : cs[j]? = some kindTab[j] := by rw [← Array.getElem?_toList, hcs, List.getElem?_eq_getElem hj]
   rw [this] at hc
   refine ⟨?_, hc⟩
   unfold World.cell? at hc
   show 0 < W.heap.size
   cases hb : W.heap[0]? with
   | none => simp [hb] at hc
   | some o => exact (Array.getElem?_eq_some_iff.1 hb).1
theorem door_met (os : Os) (args : Array Value) : laidMetH Tryd.prog laidT ((World.doorLaid Tryd.prog 400 os).forCall (fun _ _ => 0) ⟨#[], args, []⟩).memory :=
 laidMetH_of_parts3 (fuel := 8) (laidMet_of_run' 8 (by kernel_rfl) (by kernel_rfl)) (by kernel_rfl) (by kernel_rfl)
end Go.Proofs.YtmmcendgdcmlkaaDoor
namespace Go.Avl
open Go Go.Proofs.Tryd
set_option maxRecDepth 10000
theorem orI_is (nl : Bool) (xs : List Int) (c : Cp) (hl : xs.length < 1000000) : PureIs prog 74 [.sl nl (xs.map intC) c] (.sc (.int .i64 (orR xs))) := by
 refine PureIs.of1 6 [6, 7, 8, 9, 14] func74 ntmps74 results74 fun _ => ?_
 refine EvC.seq (EvC.rg (by simp only [go_sem] <;> rfl) rfl ?_)
 refine EvC.seq (EvC.rg (by simp only [go_sem] <;> rfl) rfl ?_)
 refine EvC.seq ?_
 refine EvC.seq (EvC.rg (by simp only [go_sem] <;> rfl) rfl ?_)
 refine EvC.block (EvC.loopS (σ := Nat) (fun i => ⟨[(3, .sc (.int .i64 0)), (6, .sl nl (xs.map intC) c), (7, .sc (.int .i64 xs.length)), (8, .sc (.int .i64 i))], [], [], 0⟩) (fun i => xs.length - i) (fun i => i ≤ xs.length ∧ orR xs = orR (xs.drop i)) [3, 6, 7, 8] 0 ?_ ?_)
 ·refine ⟨[], 0, rfl, (by simp only [go_sem] <;> rfl), Nat.zero_le _, by simp⟩
 rintro i ⟨h1, h2⟩
 refine EvC.seq (EvC.rg (by simp only [go_sem] <;> rfl) rfl ?_)
 refine EvC.seq (EvC.cond (by simp only [go_sem] <;> rfl) (fun hc => ?_) (fun hc => ?_))
 ·refine EvC.skip ?_
  have hi : i < xs.length := by simpa using hc
  have he : xs[i]? = some xs[i] := List.getElem?_eq_getElem hi
  generalize xs[i] = e at he
  have hd : xs.drop i = e :: xs.drop (i + 1) := by
   rw [List.drop_eq_getElem_cons hi]; congr 1; rw [List.getElem?_eq_getElem hi] at he; simpa using he
  refine EvC.seq ?_
  refine EvC.block (EvC.seq (EvC.rg (by simp only [go_sem, he, intC] <;> rfl) (by simp) ?_))
  refine EvC.a ?_
  refine EvC.cond (by simp only [go_sem] <;> rfl) (fun hc1 => ?_) (fun hc1 => ?_)
  ·refine EvC.seq (EvC.rg (by simp only [go_sem] <;> rfl) rfl ?_)
   refine EvC.rz ?_
   simp only [go_sem]
   rw [h2, hd, orR, if_pos (by simpa using hc1)]
  refine EvC.skip ?_
  refine EvC.rg (by simp only [go_sem] <;> rfl) ?_ ?_
  ·exact inI64_of (by omega) (by omega)
  refine ⟨[], i + 1, rfl, (by simp only [go_sem] <;> rfl), ⟨by omega, ?_⟩, by omega⟩
  rw [h2, hd, orR, if_neg (by simpa using hc1)]
 ·refine EvC.exit ?_
  have hi : ¬ i < xs.length := by simpa using hc
  refine EvC.seq (EvC.rg (by simp only [go_sem] <;> rfl) rfl ?_)
  refine EvC.rz ?_
  simp only [go_sem]
  rw [h2, List.drop_of_length_le (by omega)]; rfl
theorem isNaN_is (a : Int) : PureIs prog 104 [.sc (.int .i64 a)] (.sc (.bool false)) := by
 refine PureIs.of1 1 [2] func104 ntmps104 results104 fun _ => ?_
 refine EvC.a ?_
 refine EvC.a ?_
 refine EvC.rz ?_
 simp only [go_sem]
def cmpJ (a b : Int) : Int := if a < b then -1 else if b < a then 1 else 0
theorem compareI_is (a b : Int) : PureIs prog 75 [.sc (.int .i64 a), .sc (.int .i64 b)] (.sc (.int .i64 (cmpJ a b))) := by
 refine PureIs.of1 2 [4, 5, 6, 11, 12, 13, 16, 19] func75 ntmps75 results75 fun _ => ?_
 refine EvC.a ?_
 refine EvC.k1 ?_ (c1 := .ca (isNaN_is a))
 refine EvC.k1 ?_ (c1 := .ca (isNaN_is b))
 refine EvC.seq ?_
 refine EvC.a ?_
 refine EvC.cs ?_
 refine EvC.seq ?_
 refine EvC.a ?_
 refine EvC.cs ?_
 refine EvC.seq ?_
 refine EvC.a ?_
 unfold cmpJ
 by_cases h1 : a < b
 ·refine EvC.ct ?_ (by simp only [go_sem, decide_eq_true h1] <;> rfl)
  rw [if_pos h1]
  refine EvC.a ?_
  refine EvC.rz ?_
  simp only [go_sem]
 refine EvC.cs ?_ (by simp only [go_sem, decide_eq_false h1] <;> rfl)
 rw [if_neg h1]
 refine EvC.seq ?_
 refine EvC.a ?_
 by_cases h2 : b < a
 ·refine EvC.ct ?_ (by simp only [go_sem, decide_eq_true h2] <;> rfl)
  rw [if_pos h2]
  refine EvC.a ?_
  refine EvC.rz ?_
  simp only [go_sem]
 refine EvC.cs ?_ (by simp only [go_sem, decide_eq_false h2] <;> rfl)
 rw [if_neg h2]
 refine EvC.a ?_
 refine EvC.rz ?_
 simp only [go_sem]
def edgeI (f g : FA) : Int := orR [cmpJ f.state g.state, cmpJ f.input g.input]
theorem edge_is (f g : FA) : PureIs prog 44 [.ag f.cells, .ag g.cells] (.sc (.int .i64 (edgeI f g))) := by
 have q := orI_is false [cmpJ f.state g.state, cmpJ f.input g.input] .full (by simp)
 simp only [List.map_cons, List.map_nil, intC] at q
 rw [FA.cells, FA.cells]
 refine PureIs.of1 5 [] func44 ntmps44 results44 fun _ => ?_
 refine EvC.a ?_
 refine EvC.z 0 ?_
 refine EvC.z 1 ?_
 apply EvC.seq
 apply EvC.drw mixed
 ·apply Tr.run
  ·simp only [go_sem] <;> rfl
  ·simp
  apply Tr.cons
  ·exact .ca (compareI_is f.state g.state)
  apply Tr.run
  ·simp only [go_sem] <;> rfl
  ·simp
  apply Tr.cons
  ·exact .ca (compareI_is f.input g.input)
  apply Tr.run
  ·simp only [go_sem] <;> rfl
  ·simp
  apply Tr.cons
  ·exact .ca q
  apply Tr.done
  ·simp only [go_sem] <;> rfl
  ·simp
 ·kernel_rfl
 refine EvC.rz ?_
 simp only [go_sem]
 rfl
def ltE (f g : FA) : Bool := decide (f.state < g.state) || (decide (f.state = g.state) && decide (f.input < g.input))
theorem edgeI_lt (f g : FA) : decide (edgeI f g < 0) = ltE f g := by
 have key : edgeI f g < 0 ↔ f.state < g.state ∨ f.state = g.state ∧ f.input < g.input := by
  simp only [edgeI, orR, cmpJ]
  by_cases h1 : f.state < g.state
  ·simp [h1]
  by_cases h2 : g.state < f.state
  ·simp [h1, h2, show ¬ f.state = g.state by omega]
  have h3 : f.state = g.state := by omega
  by_cases h4 : f.input < g.input
  ·simp [h3, h4]
  by_cases h5 : g.input < f.input
  ·simp [h3, h4, h5]
  ·simp [h3, h4, h5]
 rw [Bool.eq_iff_iff]
 simp only [decide_eq_true_eq, ltE, Bool.or_eq_true, Bool.and_eq_true]
 exact key
def leE (f g : FA) : Bool := !ltE g f
def atE (s i : Int) (f : FA) : Bool := decide (f.state = s) && decide (f.input = i)
def SrtE (l : List FA) : Prop := l.Pairwise fun f g => leE f g = true
theorem ltE_iff {f g : FA} : ltE f g = true ↔ f.state < g.state ∨ f.state = g.state ∧ f.input < g.input := by
 simp [ltE]
theorem leE_iff {f g : FA} : leE f g = true ↔ f.state < g.state ∨ f.state = g.state ∧ f.input ≤ g.input := by
 rw [leE, Bool.not_eq_true', ← Bool.not_eq_true, ltE_iff]
 omega
theorem leE_not {f g : FA} : leE f g = false ↔ ltE g f = true := by rw [leE, Bool.not_eq_false']
theorem leE_refl (f : FA) : leE f f = true := leE_iff.2 (by omega)
theorem leE_trans {f g h : FA} (h1 : leE f g = true) (h2 : leE g h = true) : leE f h = true := by
 rw [leE_iff] at *; omega
theorem leE_of_lt {f g : FA} (h : ltE f g = true) : leE f g = true := by
 rw [leE_iff]; rw [ltE_iff] at h; omega
theorem atE_iff {s i : Int} {f : FA} : atE s i f = true ↔ f.state = s ∧ f.input = i := by simp [atE]
theorem srt_uniq : ∀ {a b : List FA}, SrtE a → SrtE b → (∀ s i, a.filter (atE s i) = b.filter (atE s i)) → a = b
 | [], [], _, _, _ => rfl
 | [], y :: b, _, _, h => by
   have := h y.state y.input
   rw [List.filter_cons_of_pos (atE_iff.2 ⟨rfl, rfl⟩)] at this
   cases this
 | x :: a, [], _, _, h => by
   have := h x.state x.input
   rw [List.filter_cons_of_pos (atE_iff.2 ⟨rfl, rfl⟩)] at this
   cases this
 | x :: a, y :: b, ha, hb, h => by
   have hx := h x.state x.input
   have hy := h y.state y.input
   rw [List.filter_cons_of_pos (atE_iff.2 ⟨rfl, rfl⟩)] at hx
   rw [List.filter_cons_of_pos (p := atE y.state y.input) (atE_iff.2 ⟨rfl, rfl⟩)] at hy
   have mx : x ∈ y :: b := (List.mem_filter.1 (show x ∈ (y :: b).filter (atE x.state x.input) by rw [← hx]; exact List.mem_cons_self)).1
   have my : y ∈ x :: a := (List.mem_filter.1 (show y ∈ (x :: a).filter (atE y.state y.input) by rw [hy]; exact List.mem_cons_self)).1
   have l1 : leE y x = true := by
    rcases List.mem_cons.1 mx with e | e
    ·rw [e]; exact leE_refl y
    ·exact (List.pairwise_cons.1 hb).1 x e
   have l2 : leE x y = true := by
    rcases List.mem_cons.1 my with e | e
    ·rw [e]; exact leE_refl x
    ·exact (List.pairwise_cons.1 ha).1 y e
   have e1 : y.state = x.state ∧ y.input = x.input := by rw [leE_iff] at l1 l2; omega
   have hyx : atE x.state x.input y = true := atE_iff.2 e1
   rw [List.filter_cons_of_pos hyx] at hx
   obtain ⟨e2, _⟩ := List.cons.inj hx
   subst e2
   refine congrArg (x :: ·) (srt_uniq (List.pairwise_cons.1 ha).2 (List.pairwise_cons.1 hb).2 fun s i => ?_)
   have := h s i
   by_cases hs : atE s i x = true
   ·rw [List.filter_cons_of_pos hs, List.filter_cons_of_pos hs] at this
    exact (List.cons.inj this).2
   ·rw [List.filter_cons_of_neg hs, List.filter_cons_of_neg hs] at this
    exact this
def insE (x : FA) : List FA → List FA
 | [] => [x]
 | y :: l => if leE x y then x :: y :: l else y :: insE x l
def srtE : List FA → List FA
 | [] => []
 | x :: l => insE x (srtE l)
theorem insE_mem {x z : FA} : ∀ {l : List FA}, z ∈ insE x l ↔ z = x ∨ z ∈ l
 | [] => by simp [insE]
 | y :: l => by
   rw [insE]
   split
   ·simp
   ·rw [List.mem_cons, insE_mem (l := l), List.mem_cons]
    constructor
    ·rintro (h | h | h) <;> simp [h]
    ·rintro (h | h | h) <;> simp [h]
theorem insE_srt {x : FA} : ∀ {l : List FA}, SrtE l → SrtE (insE x l)
 | [], _ => List.pairwise_singleton _ _
 | y :: l, h => by
   rw [insE]
   split
   ·rename_i hxy
    refine List.pairwise_cons.2 ⟨fun z hz => ?_, h⟩
    rcases List.mem_cons.1 hz with rfl | hz
    ·exact hxy
    ·exact leE_trans hxy ((List.pairwise_cons.1 h).1 z hz)
   ·rename_i hxy
    refine List.pairwise_cons.2 ⟨fun z hz => ?_, insE_srt (List.pairwise_cons.1 h).2⟩
    rcases insE_mem.1 hz with rfl | hz
    ·exact leE_of_lt (leE_not.1 (Bool.eq_false_iff.2 hxy))
    ·exact (List.pairwise_cons.1 h).1 z hz
theorem insE_fil {x : FA} (s i : Int) : ∀ (l : List FA), (insE x l).filter (atE s i) = (x :: l).filter (atE s i)
 | [] => rfl
 | y :: l => by
   rw [insE]
   split
   ·rfl
   ·rename_i hxy
    have hlt := ltE_iff.1 (leE_not.1 (Bool.eq_false_iff.2 hxy))
    have ih := insE_fil (x := x) s i l
    by_cases hx : atE s i x = true
    ·have hy : ¬ atE s i y = true := fun hy => by
       rw [atE_iff] at hx hy; omega
     rw [List.filter_cons_of_neg hy, ih, List.filter_cons_of_pos hx, List.filter_cons_of_pos hx, List.filter_cons_of_neg hy]
    ·rw [List.filter_cons_of_neg hx] at ih ⊢
     by_cases hy : atE s i y = true
     ·rw [List.filter_cons_of_pos hy, List.filter_cons_of_pos hy, ih]
     ·rw [List.filter_cons_of_neg hy, List.filter_cons_of_neg hy, ih]
theorem srtE_srt : ∀ (l : List FA), SrtE (srtE l)
 | [] => List.Pairwise.nil
 | x :: l => insE_srt (srtE_srt l)
theorem srtE_fil (s i : Int) : ∀ (l : List FA), (srtE l).filter (atE s i) = l.filter (atE s i)
 | [] => rfl
 | x :: l => by
   have ih := srtE_fil s i l
   rw [srtE, insE_fil]
   by_cases hx : atE s i x = true
   ·rw [List.filter_cons_of_pos hx, List.filter_cons_of_pos hx, ih]
   ·rw [List.filter_cons_of_neg hx, List.filter_cons_of_neg hx, ih]
theorem srtE_eq {a l : List FA} (ha : SrtE a) (h : ∀ s i, a.filter (atE s i) = l.filter (atE s i)) : a = srtE l :=
 srt_uniq ha (srtE_srt l) fun s i => by rw [h, srtE_fil]
theorem insE_len (x : FA) : ∀ (l : List FA), (insE x l).length = l.length + 1
 | [] => rfl
 | y :: l => by
   rw [insE]
   split
   ·rfl
   ·rw [List.length_cons, insE_len x l]; rfl
theorem srtE_len : ∀ (l : List FA), (srtE l).length = l.length
 | [] => rfl
 | x :: l => by rw [srtE, insE_len, srtE_len l]; rfl
theorem srtE_mem {z : FA} : ∀ {l : List FA}, z ∈ srtE l ↔ z ∈ l
 | [] => Iff.rfl
 | x :: l => by rw [srtE, insE_mem, srtE_mem, List.mem_cons]
theorem srtE_id {l : List FA} (h : SrtE l) : srtE l = l := (srtE_eq h fun _ _ => rfl).symm
theorem srtE_srtE_app (a b : List FA) : srtE (srtE a ++ srtE b) = srtE (a ++ b) := srtE_eq (srtE_srt _) fun s i => by
 rw [srtE_fil, List.filter_append, srtE_fil, srtE_fil, List.filter_append]
theorem srtE_split {a1 a2 b1 b2 : List FA} (h1 : ∀ x ∈ a1, ∀ y ∈ a2, leE x y = true) (h2 : ∀ x ∈ b1, ∀ y ∈ b2, leE x y = true) (h3 : ∀ x ∈ a1, ∀ y ∈ b2, leE x y = true) (h4 : ∀ x ∈ b1, ∀ y ∈ a2, ltE x y = true) :
  srtE (a1 ++ a2 ++ (b1 ++ b2)) = srtE (a1 ++ b1) ++ srtE (a2 ++ b2) := by
 symm
 refine srtE_eq ?_ fun s i => ?_
 ·refine List.pairwise_append.2 ⟨srtE_srt _, srtE_srt _, fun x hx y hy => ?_⟩
  rw [srtE_mem, List.mem_append] at hx hy
  rcases hx with hx | hx <;> rcases hy with hy | hy
  ·exact h1 x hx y hy
  ·exact h3 x hx y hy
  ·exact leE_of_lt (h4 x hx y hy)
  ·exact h2 x hx y hy
 ·simp only [List.filter_append, srtE_fil, List.append_assoc]
  congr 1
  by_cases hb : b1.filter (atE s i) = []
  ·rw [hb]; simp
  by_cases ha : a2.filter (atE s i) = []
  ·rw [ha]; simp
  exfalso
  obtain ⟨x, hx⟩ := List.exists_mem_of_ne_nil _ hb
  obtain ⟨y, hy⟩ := List.exists_mem_of_ne_nil _ ha
  rw [List.mem_filter, atE_iff] at hx hy
  have := ltE_iff.1 (h4 x hx.1 y hy.1)
  omega
def sM (L : List FA) : Mem := [(0, .arr 6 (L.map FA.cells) false)]
theorem fas_norefs2 (l : List FA) : (l.map FA.cells).all AV.norefs = true := by
 rw [List.all_eq_true]
 intro c hc
 obtain ⟨f, _, rfl⟩ := List.mem_map.1 hc
 rfl
theorem fa_at {l r : List FA} {x : FA} : ((l ++ x :: r).map FA.cells)[l.length]? = some x.cells := by
 rw [List.getElem?_map, List.getElem?_append_right (Nat.le_refl _), Nat.sub_self]; rfl
theorem fa_swap {l r : List FA} {x y : FA} : (((l ++ y :: x :: r).map FA.cells).set (l.length + 1) y.cells).set l.length x.cells = (l ++ x :: y :: r).map FA.cells := by
 have h1 : ((l ++ y :: x :: r).map FA.cells).set (l.length + 1) y.cells = (l ++ y :: y :: r).map FA.cells := by
  rw [← List.map_set, List.set_append_right _ _ (by omega), show l.length + 1 - l.length = 1 by omega]; rfl
 rw [h1, ← List.map_set, List.set_append_right _ _ (Nat.le_refl _), Nat.sub_self]; rfl
theorem srt_put {s1 s2 u : List FA} {x : FA} (h : s1 ++ s2 = srtE u) (h2 : ∀ y ∈ s2, ltE x y = true) (h1 : ∀ y ∈ s1, leE y x = true) : s1 ++ x :: s2 = srtE (u ++ [x]) := by
 have hs : SrtE (s1 ++ s2) := by rw [h]; exact srtE_srt u
 obtain ⟨k1, k2, k3⟩ := List.pairwise_append.1 hs
 refine srtE_eq ?_ fun s i => ?_
 ·refine List.pairwise_append.2 ⟨k1, List.pairwise_cons.2 ⟨fun y hy => leE_of_lt (h2 y hy), k2⟩, fun y hy z hz => ?_⟩
  rcases List.mem_cons.1 hz with rfl | hz
  ·exact h1 y hy
  ·exact k3 y hy z hz
 ·rw [List.filter_append, List.filter_append, ← srtE_fil s i u, ← h, List.filter_append]
  by_cases hx : atE s i x = true
  ·rw [List.filter_cons_of_pos hx, List.filter_cons_of_pos hx]
   have : s2.filter (atE s i) = [] := by
    rw [List.filter_eq_nil_iff]
    intro y hy hy2
    rw [atE_iff] at hx hy2
    have := ltE_iff.1 (h2 y hy)
    omega
   rw [this]; simp
  ·rw [List.filter_cons_of_neg hx, List.filter_cons_of_neg hx]; simp
set_option maxHeartbeats 4000000 in
theorem insert_body (p u r : List FA) (a b N : Nat) (ha : a = p.length) (hb : b = a + u.length) (hN : N = (p ++ u ++ r).length) (hl : N < 1000000) :
  BodyIs prog 102 [.tv 0 N 0 N (.val N), .sc (.int .i64 a), .sc (.int .i64 b), .fn 44 []] (sM (p ++ u ++ r)) 1 (fun _ M _ => M = sM (p ++ srtE u ++ r)) := by
 have hNn : (p ++ u ++ r).length = p.length + u.length + r.length := by simp; omega
 refine BodyIs.of (nv := 4) (hid := [8, 9, 14, 34]) func102 rfl (by kernel_rfl) (by simp [ntmps102]) fun _ => ?_
 rw [ntmps102, results102]
 refine EvC.a ?_ (hok := by exact inI64_of (by omega) (by omega))
 refine EvC.block ?_
 refine EvC.loopS (σ := Nat) (fun c => ⟨[(0, .tv 0 N 0 N (.val N)), (1, .sc (.int .i64 a)), (2, .sc (.int .i64 b)), (3, .fn 44 []), (8, .sc (.int .i64 ((a + c : Nat) : Int)))], [], sM (p ++ (srtE (u.take c) ++ u.drop c) ++ r), 1⟩) (fun c => u.length - c) (fun c => 1 ≤ c ∧ (c ≤ u.length ∨ c = 1)) [0, 1, 2, 3, 8] 1 ?_ ?_
 ·have h1 : srtE (u.take 1) ++ u.drop 1 = u := by cases u <;> rfl
  exact ⟨[(0, 0)], 1, rfl, (by rw [h1]; simp only [go_sem, sM, fas_norefs2, Int.natCast_add, Int.natCast_one] <;> rfl), Nat.le_refl _, .inr rfl⟩
 rintro c ⟨c1, c2⟩
 obtain ⟨cZ, hcZ⟩ : ∃ z : Int, z = ((a + c : Nat) : Int) := ⟨_, rfl⟩
 rw [← hcZ]
 refine EvC.seq ?_
 refine EvC.a ?_
 by_cases hcl : c < u.length
 rotate_left
 ·refine EvC.cf ?_ (by simp only [go_sem, decide_eq_false (show ¬ cZ < (b : Int) by omega)] <;> rfl)
  refine EvC.exit ?_
  refine ⟨.inr rfl, _, rfl, ?_⟩
  rw [List.take_of_length_le (by omega), List.drop_of_length_le (by omega), List.append_nil]
  rfl
 refine EvC.cr ?_ (by simp only [go_sem, decide_eq_true (show cZ < (b : Int) by omega)] <;> rfl)
 have hdr : u.drop c = u[c] :: u.drop (c + 1) := List.drop_eq_getElem_cons hcl
 have htk : u.take (c + 1) = u.take c ++ [u[c]] := by rw [List.take_succ_eq_append_getElem hcl]
 generalize u[c] = x at hdr htk
 rw [hdr]
 have hsl : (srtE (u.take c)).length = c := by rw [srtE_len, List.length_take]; omega
 have hdl : (u.drop (c + 1)).length = u.length - (c + 1) := List.length_drop
 obtain ⟨T, hT⟩ : ∃ T, T = u.drop (c + 1) := ⟨_, rfl⟩
 rw [← hT] at hdl ⊢
 refine EvC.seq ?_
 refine EvC.block ?_
 refine EvC.a ?_
 refine EvC.block ?_
 refine EvC.loopS (σ := List FA × List FA) (fun g => ⟨[(0, .tv 0 N 0 N (.val N)), (1, .sc (.int .i64 a)), (2, .sc (.int .i64 b)), (3, .fn 44 []), (8, .sc (.int .i64 cZ)), (9, .sc (.int .i64 ((a + g.1.length : Nat) : Int)))], [], sM (p ++ g.1 ++ x :: (g.2 ++ T ++ r)), 1⟩) (fun g => g.1.length) (fun g => g.1 ++ g.2 = srtE (u.take c) ∧ ∀ y ∈ g.2, ltE x y = true) [0, 1, 2, 3, 8, 9] 1 ?_ ?_
 ·have h1 : p ++ (srtE (u.take c) ++ x :: T) ++ r = p ++ srtE (u.take c) ++ x :: ([] ++ T ++ r) := by simp
  exact ⟨[(0, 0)], (srtE (u.take c), []), rfl, (by rw [hsl, ← hcZ, h1]; simp only [go_sem, sM, fas_norefs2] <;> rfl), List.append_nil _, fun _ h => by cases h⟩
 rintro ⟨s1, s2⟩ ⟨k1, k2⟩
 simp only at k1 k2 ⊢
 have hsl2 : s1.length + s2.length = c := by rw [← hsl, ← k1, List.length_append]
 have hfin : (∀ y ∈ s1, leE y x = true) → p ++ s1 ++ x :: (s2 ++ T ++ r) = p ++ (srtE (u.take (c + 1)) ++ u.drop (c + 1)) ++ r := fun h1 => by
  rw [htk, ← srt_put k1 k2 h1, ← hT]; simp
 have hs12 : SrtE (s1 ++ s2) := by rw [k1]; exact srtE_srt _
 have hexit : p ++ s1 ++ x :: (s2 ++ T ++ r) = p ++ (srtE (u.take (c + 1)) ++ u.drop (c + 1)) ++ r → cZ + 1 = ((a + (c + 1) : Nat) : Int) := fun _ => by omega
 obtain ⟨jZ, hjZ⟩ : ∃ z : Int, z = ((a + s1.length : Nat) : Int) := ⟨_, rfl⟩
 rw [← hjZ]
 refine EvC.seq ?_
 rcases List.eq_nil_or_concat s1 with rfl | ⟨s, y, hsy⟩
 ·have hj0 : decide ((a : Int) < jZ) = false := decide_eq_false (by simp at hjZ; omega)
  have hx0 : ((p ++ [] ++ x :: (s2 ++ T ++ r)).map FA.cells)[jZ.toNat]? = some x.cells := by
   rw [show jZ.toNat = (p ++ ([] : List FA)).length by simp at hjZ ⊢; omega]; exact fa_at
  obtain ⟨y0, hy0⟩ : ∃ y : FA, ((p ++ [] ++ x :: (s2 ++ T ++ r)).map FA.cells)[(jZ - 1).toNat]? = some y.cells := by
   have hlt : (jZ - 1).toNat < (p ++ [] ++ x :: (s2 ++ T ++ r)).length := by simp at hjZ ⊢; omega
   exact ⟨_, by rw [List.getElem?_map, List.getElem?_eq_getElem hlt]; rfl⟩
  have hLn : ((p ++ [] ++ x :: (s2 ++ T ++ r)).map FA.cells).length = N := by rw [List.length_map]; simp at hsl2 ⊢; omega
  rw [hfin fun _ h => by cases h] at hx0 hy0 hLn ⊢
  obtain ⟨Z, hZ⟩ : ∃ Z, Z = p ++ (srtE (u.take (c + 1)) ++ u.drop (c + 1)) ++ r := ⟨_, rfl⟩
  rw [← hZ] at hx0 hy0 hLn ⊢
  apply EvC.seq
  apply EvC.drw mixed
  ·apply Tr.run
   ·simp only [go_sem, sM, hx0, hy0, hLn, FA.cells, hj0] <;> rfl
   ·simp; try omega
   apply Tr.cons
   ·exact .skipv (.sc (.int .i64 0)) rfl rfl (by simp only [go_sem] <;> rfl) (by simp only [go_sem] <;> rfl)
   apply Tr.done
   ·simp only [go_sem, hj0] <;> rfl
   ·simp
  ·kernel_rfl
  refine EvC.cf ?_
  refine EvC.exit ?_
  refine EvC.b ?_ (hok := by exact inI64_of (by omega) (by omega))
  exact ⟨[(0, 0)], c + 1, rfl, (by rw [← hZ, show ((a + (c + 1) : Nat) : Int) = cZ + 1 by omega]; simp only [go_sem, sM, fas_norefs2] <;> rfl), ⟨by omega, .inl hcl⟩, by omega⟩
 rw [List.concat_eq_append] at hsy
 subst hsy
 have hjg : decide ((a : Int) < jZ) = true := decide_eq_true (by simp at hjZ; omega)
 have hW : p ++ (s ++ [y]) ++ x :: (s2 ++ T ++ r) = (p ++ s) ++ y :: x :: (s2 ++ T ++ r) := by simp
 have hjn : jZ.toNat = (p ++ s).length + 1 := by simp at hjZ ⊢; omega
 have hjn1 : (jZ - 1).toNat = (p ++ s).length := by omega
 have hjp : 1 ≤ jZ := by omega
 have hlen : (p ++ s).length + 2 + (s2 ++ T ++ r).length = N := by simp at hsl2 ⊢; omega
 rw [hW] at hfin ⊢
 have hx0 : (((p ++ s) ++ y :: x :: (s2 ++ T ++ r)).map FA.cells)[jZ.toNat]? = some x.cells := by
  have h : (p ++ s) ++ y :: x :: (s2 ++ T ++ r) = (p ++ s ++ [y]) ++ x :: (s2 ++ T ++ r) := by simp
  rw [hjn, h, show (p ++ s).length + 1 = (p ++ s ++ [y]).length by simp; omega]; exact fa_at
 have hy0 : (((p ++ s) ++ y :: x :: (s2 ++ T ++ r)).map FA.cells)[(jZ - 1).toNat]? = some y.cells := by rw [hjn1]; exact fa_at
 have hLn : (((p ++ s) ++ y :: x :: (s2 ++ T ++ r)).map FA.cells).length = N := by rw [List.length_map, List.length_append, List.length_cons, List.length_cons]; omega
 have hsw := fa_swap (l := p ++ s) (r := s2 ++ T ++ r) (x := x) (y := y)
 rw [← hjn, ← hjn1] at hsw
 have hSn := fas_norefs2 ((p ++ s) ++ x :: y :: (s2 ++ T ++ r))
 have q := edge_is x y
 have hlt := edgeI_lt x y
 have hyx : leE y x = !ltE x y := rfl
 have hle : ∀ z ∈ s ++ [y], leE z y = true := fun z hz => by
  rcases List.mem_append.1 hz with hz | hz
  ·exact (List.pairwise_append.1 (List.pairwise_append.1 hs12).1).2.2 z hz y (List.mem_singleton.2 rfl)
  ·rw [List.mem_singleton.1 hz]; exact leE_refl y
 have hI : inI64 (jZ - 1) = true := inI64_of (by omega) (by omega)
 have hg2 : ∀ c : List AV, ((((p ++ s) ++ y :: x :: (s2 ++ T ++ r)).map FA.cells).set jZ.toNat c)[(jZ - 1).toNat]? = some y.cells := fun c => by
  rw [List.getElem?_set_ne (by omega)]; exact hy0
 have hLn2 : ∀ c : List AV, ((((p ++ s) ++ y :: x :: (s2 ++ T ++ r)).map FA.cells).set jZ.toNat c).length = N := fun c => by rw [List.length_set]; exact hLn
 obtain ⟨Z, hZ⟩ : ∃ Z, Z = ((p ++ s) ++ y :: x :: (s2 ++ T ++ r)).map FA.cells := ⟨_, rfl⟩
 obtain ⟨Z2, hZ2⟩ : ∃ Z, Z = ((p ++ s) ++ x :: y :: (s2 ++ T ++ r)).map FA.cells := ⟨_, rfl⟩
 rw [← hZ, ← hZ2] at hsw
 rw [← hZ] at hx0 hy0 hLn hg2 hLn2
 rw [← hZ2] at hSn
 rw [FA.cells] at hx0 hy0
 simp only [FA.cells] at hg2
 rw [FA.cells, FA.cells] at q hsw
 rw [sM, ← hZ]
 generalize edgeI x y = eZ at q hlt
 refine EvC.k1D mixed ?_ (h1 := by simp only [go_sem, hx0, hy0, hLn, hjg] <;> rfl) (k1 := by simp [hI]; omega) (c1 := .cg q) (h2 := by simp only [go_sem, hlt] <;> rfl)
 cases hb : ltE x y with
 | false =>
   rw [hb] at hyx hlt
   refine EvC.cf ?_ (by simp only [go_sem, hlt] <;> rfl)
   refine EvC.exit ?_
   have hf := hfin fun z hz => leE_trans (hle z hz) hyx
   refine EvC.b ?_ (hok := by exact inI64_of (by omega) (by omega))
   exact ⟨[(0, 0)], c + 1, rfl, (by rw [show ((a + (c + 1) : Nat) : Int) = cZ + 1 by omega, hZ, hf]; simp only [go_sem, sM, fas_norefs2] <;> rfl), ⟨by omega, .inl hcl⟩, by omega⟩
 | true =>
   rw [hb] at hlt
   refine EvC.cr ?_ (by simp only [go_sem, hlt] <;> rfl)
   refine EvC.seq ?_
   refine EvC.block ?_
   apply EvC.drwA mixed
   ·apply Tr.done
    ·simp only [go_sem, hx0, hy0, hLn, hg2, hLn2, hsw] <;> rfl
    ·simp [hI]; omega
   ·kernel_rfl
   refine EvC.b ?_ (hok := by exact inI64_of (by omega) (by omega))
   exact ⟨[(0, 0)], (s, y :: s2), rfl, (by rw [show ((a + s.length : Nat) : Int) = jZ - 1 by simp at hjZ; omega, show p ++ s ++ x :: (y :: s2 ++ T ++ r) = (p ++ s) ++ x :: y :: (s2 ++ T ++ r) by simp, sM, ← hZ2]; simp only [go_sem, hSn] <;> rfl), ⟨by rw [← k1]; simp, fun z hz => by
    rcases List.mem_cons.1 hz with rfl | hz
    ·exact hb
    ·exact k2 z hz⟩, by simp⟩
theorem fa_at2 {l m r : List FA} {x y : FA} : ((l ++ x :: (m ++ y :: r)).map FA.cells)[l.length + 1 + m.length]? = some y.cells := by
 have h : l ++ x :: (m ++ y :: r) = (l ++ x :: m) ++ y :: r := by simp
 rw [h, show l.length + 1 + m.length = (l ++ x :: m).length by simp; omega]; exact fa_at
theorem fa_swap2 {l m r : List FA} {x y : FA} : (((l ++ x :: (m ++ y :: r)).map FA.cells).set l.length y.cells).set (l.length + 1 + m.length) x.cells = (l ++ y :: (m ++ x :: r)).map FA.cells := by
 have h1 : ((l ++ x :: (m ++ y :: r)).map FA.cells).set l.length y.cells = ((l ++ y :: m) ++ y :: r).map FA.cells := by
  rw [← List.map_set, List.set_append_right _ _ (Nat.le_refl _), Nat.sub_self]; simp
 rw [h1, show l.length + 1 + m.length = (l ++ y :: m).length by simp; omega, ← List.map_set, List.set_append_right _ _ (Nat.le_refl _), Nat.sub_self]; simp
set_option maxHeartbeats 4000000 in
theorem swap_body (p u q v r : List FA) (a b n N : Nat) (ha : a = p.length) (hb : b = a + u.length + q.length) (hn : n = u.length) (hv : v.length = n) (hN : N = (p ++ u ++ q ++ v ++ r).length) (hl : N < 1000000) :
  BodyIs prog 128 [.tv 0 N 0 N (.val N), .sc (.int .i64 a), .sc (.int .i64 b), .sc (.int .i64 n), .fn 44 []] (sM (p ++ u ++ q ++ v ++ r)) 1 (fun _ M _ => M = sM (p ++ v ++ q ++ u ++ r)) := by
 have hNn : (p ++ u ++ q ++ v ++ r).length = p.length + u.length + q.length + v.length + r.length := by simp; omega
 refine BodyIs.of (nv := 5) (hid := [10, 13]) func128 rfl (by kernel_rfl) (by simp [ntmps128]) fun _ => ?_
 rw [ntmps128, results128]
 refine EvC.a ?_
 refine EvC.block ?_
 refine EvC.loopS (σ := Nat) (fun k => ⟨[(0, .tv 0 N 0 N (.val N)), (1, .sc (.int .i64 a)), (2, .sc (.int .i64 b)), (3, .sc (.int .i64 n)), (10, .sc (.int .i64 k))], [], sM (p ++ (v.take k ++ u.drop k) ++ q ++ (u.take k ++ v.drop k) ++ r), 1⟩) (fun k => n - k) (fun k => k ≤ n) [0, 1, 2, 3, 10] 1 ?_ ?_
 ·exact ⟨[(0, 0)], 0, rfl, (by simp only [go_sem, sM, fas_norefs2, List.take_zero, List.drop_zero, List.nil_append, Int.natCast_zero] <;> rfl), Nat.zero_le _⟩
 intro k hk
 refine EvC.seq ?_
 refine EvC.a ?_
 refine EvC.cond (by simp only [go_sem] <;> rfl) (fun hc => ?_) (fun hc => ?_)
 rotate_left
 ·refine EvC.exit ?_
  obtain rfl : k = n := by have : ¬ k < n := (by simpa using hc); omega
  refine ⟨.inr rfl, _, rfl, ?_⟩
  rw [List.take_of_length_le (by omega), List.drop_of_length_le (by omega), List.take_of_length_le (by omega), List.drop_of_length_le (by omega), List.append_nil, List.append_nil]
  rfl
 have hkn : k < n := by simpa using hc
 clear hc
 have hu : k < u.length := by omega
 have hv2 : k < v.length := by omega
 have hud : u.drop k = u[k] :: u.drop (k + 1) := List.drop_eq_getElem_cons hu
 have hvd : v.drop k = v[k] :: v.drop (k + 1) := List.drop_eq_getElem_cons hv2
 have hut : u.take (k + 1) = u.take k ++ [u[k]] := List.take_succ_eq_append_getElem hu
 have hvt : v.take (k + 1) = v.take k ++ [v[k]] := List.take_succ_eq_append_getElem hv2
 generalize u[k] = x at hud hut
 generalize v[k] = y at hvd hvt
 have e1 : p ++ (v.take k ++ u.drop k) ++ q ++ (u.take k ++ v.drop k) ++ r = (p ++ v.take k) ++ x :: ((u.drop (k + 1) ++ q ++ u.take k) ++ y :: (v.drop (k + 1) ++ r)) := by rw [hud, hvd]; simp
 have e2 : p ++ (v.take (k + 1) ++ u.drop (k + 1)) ++ q ++ (u.take (k + 1) ++ v.drop (k + 1)) ++ r = (p ++ v.take k) ++ y :: ((u.drop (k + 1) ++ q ++ u.take k) ++ x :: (v.drop (k + 1) ++ r)) := by rw [hut, hvt]; simp
 obtain ⟨kZ, hkZ⟩ : ∃ z : Int, z = (k : Int) := ⟨_, rfl⟩
 rw [← hkZ, e1]
 have hla : (p ++ v.take k).length = a + k := by simp; omega
 have hlm : (p ++ v.take k).length + 1 + (u.drop (k + 1) ++ q ++ u.take k).length = b + k := by simp; omega
 have hak : ((a : Int) + kZ).toNat = (p ++ v.take k).length := by omega
 have hbk : ((b : Int) + kZ).toNat = (p ++ v.take k).length + 1 + (u.drop (k + 1) ++ q ++ u.take k).length := by omega
 have hx0 := fa_at (l := p ++ v.take k) (r := (u.drop (k + 1) ++ q ++ u.take k) ++ y :: (v.drop (k + 1) ++ r)) (x := x)
 have hy0 := fa_at2 (l := p ++ v.take k) (m := u.drop (k + 1) ++ q ++ u.take k) (r := v.drop (k + 1) ++ r) (x := x) (y := y)
 have hsw := fa_swap2 (l := p ++ v.take k) (m := u.drop (k + 1) ++ q ++ u.take k) (r := v.drop (k + 1) ++ r) (x := x) (y := y)
 rw [← hak] at hx0
 rw [← hbk] at hy0
 rw [← hbk, ← hak] at hsw
 have hLn : (((p ++ v.take k) ++ x :: ((u.drop (k + 1) ++ q ++ u.take k) ++ y :: (v.drop (k + 1) ++ r))).map FA.cells).length = N := by rw [List.length_map, ← e1]; simp; omega
 have hSn := fas_norefs2 ((p ++ v.take k) ++ y :: ((u.drop (k + 1) ++ q ++ u.take k) ++ x :: (v.drop (k + 1) ++ r)))
 have hg2 : ∀ c : List AV, ((((p ++ v.take k) ++ x :: ((u.drop (k + 1) ++ q ++ u.take k) ++ y :: (v.drop (k + 1) ++ r))).map FA.cells).set ((a : Int) + kZ).toNat c)[((b : Int) + kZ).toNat]? = some y.cells := fun c => by
  rw [List.getElem?_set_ne (by omega)]; exact hy0
 have hLn2 : ∀ c : List AV, ((((p ++ v.take k) ++ x :: ((u.drop (k + 1) ++ q ++ u.take k) ++ y :: (v.drop (k + 1) ++ r))).map FA.cells).set ((a : Int) + kZ).toNat c).length = N := fun c => by rw [List.length_set]; exact hLn
 obtain ⟨Z, hZ⟩ : ∃ Z, Z = ((p ++ v.take k) ++ x :: ((u.drop (k + 1) ++ q ++ u.take k) ++ y :: (v.drop (k + 1) ++ r))).map FA.cells := ⟨_, rfl⟩
 obtain ⟨Z2, hZ2⟩ : ∃ Z, Z = ((p ++ v.take k) ++ y :: ((u.drop (k + 1) ++ q ++ u.take k) ++ x :: (v.drop (k + 1) ++ r))).map FA.cells := ⟨_, rfl⟩
 rw [← hZ, ← hZ2] at hsw
 rw [← hZ] at hx0 hy0 hLn hg2 hLn2
 rw [← hZ2] at hSn
 rw [FA.cells] at hx0 hy0
 simp only [FA.cells] at hg2
 rw [FA.cells, FA.cells] at hsw
 rw [sM, ← hZ]
 have hI1 : inI64 ((a : Int) + kZ) = true := inI64_of (by omega) (by omega)
 have hI2 : inI64 ((b : Int) + kZ) = true := inI64_of (by omega) (by omega)
 have hb1 : 0 ≤ (a : Int) + kZ ∧ ((a : Int) + kZ).toNat < N := by omega
 have hb2 : 0 ≤ (b : Int) + kZ ∧ ((b : Int) + kZ).toNat < N := by omega
 refine EvC.skip ?_
 refine EvC.seq ?_
 refine EvC.block ?_
 apply EvC.drwA mixed
 ·apply Tr.done
  ·simp only [go_sem, hx0, hy0, hLn, hg2, hLn2, hsw] <;> rfl
  ·simp [hI1, hI2, hb1, hb2]
 ·kernel_rfl
 refine EvC.b ?_ (hok := by exact inI64_of (by omega) (by omega))
 exact ⟨[(0, 0)], k + 1, rfl, (by rw [e2, sM, ← hZ2, hkZ]; simp only [go_sem, hSn, Int.natCast_add, Int.natCast_one] <;> rfl), hkn, by omega⟩
def fcs (L : List FA) : List (List AV) := L.map FA.cells
theorem sM_fcs (L : List FA) : sM L = [(0, .arr 6 (fcs L) false)] := rfl
theorem fcs_norefs (L : List FA) : (fcs L).all AV.norefs = true := fas_norefs2 L
set_option maxHeartbeats 4000000 in
theorem rotate_body (p u v r : List FA) (a m b N : Nat) (ha : a = p.length) (hm : m = a + u.length) (hb : b = m + v.length) (hu : u ≠ []) (hv : v ≠ []) (hN : N = (p ++ u ++ v ++ r).length) (hl : N < 1000000) :
  BodyIs prog 120 [.tv 0 N 0 N (.val N), .sc (.int .i64 a), .sc (.int .i64 m), .sc (.int .i64 b), .fn 44 []] (sM (p ++ u ++ v ++ r)) 1 (fun _ M _ => M = sM (p ++ v ++ u ++ r)) := by
 have hNn : (p ++ u ++ v ++ r).length = p.length + u.length + v.length + r.length := by simp; omega
 have hul := List.length_pos_iff.2 hu
 have hvl := List.length_pos_iff.2 hv
 refine BodyIs.of (nv := 5) (hid := [10, 11, 20, 23, 24, 27, 28, 29, 30, 35, 38, 43, 44, 45, 50, 53, 54, 55, 56]) func120 rfl (by kernel_rfl) (by simp [ntmps120]) fun _ => ?_
 rw [ntmps120, results120]
 have hI1 : inI64 ((m : Int) - a) = true := inI64_of (by omega) (by omega)
 have hI2 : inI64 ((b : Int) - m) = true := inI64_of (by omega) (by omega)
 refine EvC.a ?_ (hok := by simp [hI1])
 refine EvC.a ?_ (hok := by simp [hI2])
 refine EvC.seq ?_
 refine EvC.block ?_
 refine EvC.loopS (σ := List FA × List FA × List FA × List FA) (fun g => ⟨[(0, .tv 0 N 0 N (.val N)), (2, .sc (.int .i64 m)), (4, .fn 44 []), (10, .sc (.int .i64 g.2.1.length)), (11, .sc (.int .i64 g.2.2.1.length))], [], sM (g.1 ++ g.2.1 ++ g.2.2.1 ++ g.2.2.2), 1⟩) (fun g => g.2.1.length + g.2.2.1.length)
  (fun g => g.1 ++ g.2.2.1 ++ g.2.1 ++ g.2.2.2 = p ++ v ++ u ++ r ∧ g.2.1 ≠ [] ∧ g.2.2.1 ≠ [] ∧ g.1.length + g.2.1.length = m) [0, 2, 4, 10, 11] 1 ?_ ?_
 ·exact ⟨[(0, 0)], (p, u, v, r), rfl, (by simp only; rw [show (u.length : Int) = (m : Int) - a by omega, show (v.length : Int) = (b : Int) - m by omega]; simp only [go_sem, sM_fcs, fcs_norefs] <;> rfl), rfl, hu, hv, by simp only; omega⟩
 rintro ⟨P, X, Y, R⟩ ⟨k1, k2, k3, k4⟩
 simp only at k1 k2 k3 k4 ⊢
 have hXl := List.length_pos_iff.2 k2
 have hYl := List.length_pos_iff.2 k3
 have hLl : P.length + Y.length + X.length + R.length = N := by
  have := congrArg List.length k1
  simp only [List.length_append] at this
  omega
 obtain ⟨i, hi⟩ : ∃ i, i = X.length := ⟨_, rfl⟩
 obtain ⟨j, hj⟩ : ∃ j, j = Y.length := ⟨_, rfl⟩
 rw [← hi, ← hj]
 have hmi : (m : Int) - i = (P.length : Int) := by omega
 have hI3 : inI64 ((m : Int) - i) = true := inI64_of (by omega) (by omega)
 refine EvC.seq ?_
 refine EvC.a ?_
 by_cases hij : i = j
 ·have hb0 : decide ((i : Int) = j) = true := decide_eq_true (by omega)
  refine EvC.cf ?_ (by simp only [go_sem, hb0] <;> rfl)
  refine EvC.exit ?_
  apply EvC.region
  apply XR.run
  ·simp only [go_sem] <;> rfl
  ·simp [hI3]
  refine XR.gcTo ⟨[(50, .tv 0 N 0 N (.val N)), (53, .sc (.int .i64 P.length)), (54, .sc (.int .i64 m)), (55, .sc (.int .i64 i)), (56, .fn 44 [])], [], sM (P ++ X ++ Y ++ R), 1⟩ [50, 53, 54, 55, 56] [(0, 0)] rfl (by rw [← hmi]; simp only [go_sem, sM_fcs, fcs_norefs] <;> rfl) ?_
  apply XR.callI rfl rfl (by simp only [go_sem] <;> rfl) (by simp only [go_sem] <;> rfl) (by simp only [go_sem] <;> rfl)
  have hs := swap_body P X [] Y R P.length m i N rfl (by simp; omega) hi (by omega) (by simp; omega) hl
  rw [List.append_nil, List.append_nil] at hs
  refine hs.mono fun _ M z h => ?_
  subst h
  refine XR.nil ?_
  rw [k1]
  exact ⟨.inr rfl, _, rfl, rfl⟩
 have hb0 : decide ((i : Int) = j) = false := decide_eq_false (by omega)
 refine EvC.cr ?_ (by simp only [go_sem, hb0] <;> rfl)
 refine EvC.block ?_
 refine EvC.a ?_
 by_cases hji : j < i
 ·refine EvC.ct ?_ (by simp only [go_sem, decide_eq_true (show (j : Int) < i by omega)] <;> rfl)
  apply EvC.seq
  apply EvC.region
  apply XR.run
  ·simp only [go_sem] <;> rfl
  ·simp [hI3]
  refine XR.gcTo ⟨[(0, .tv 0 N 0 N (.val N)), (2, .sc (.int .i64 m)), (4, .fn 44 []), (10, .sc (.int .i64 i)), (11, .sc (.int .i64 j)), (24, .tv 0 N 0 N (.val N)), (27, .sc (.int .i64 P.length)), (28, .sc (.int .i64 m)), (29, .sc (.int .i64 j)), (30, .fn 44 [])], [], sM (P ++ X ++ Y ++ R), 1⟩ [0, 2, 4, 10, 11, 24, 27, 28, 29, 30] [(0, 0)] rfl (by rw [← hmi]; simp only [go_sem, sM_fcs, fcs_norefs] <;> rfl) ?_
  apply XR.callI rfl rfl (by simp only [go_sem] <;> rfl) (by simp only [go_sem] <;> rfl) (by simp only [go_sem] <;> rfl)
  obtain ⟨X1, X2, rfl, hX1⟩ : ∃ X1 X2, X = X1 ++ X2 ∧ X1.length = j := ⟨X.take j, X.drop j, (List.take_append_drop j X).symm, by simp; omega⟩
  have hX2 : X2.length = i - j := by rw [hi, List.length_append, hX1]; omega
  have hs := swap_body P X1 X2 Y R P.length m j N rfl (by rw [List.length_append] at k4; omega) hX1.symm hj.symm (by simp at hLl ⊢; omega) hl
  rw [show P ++ X1 ++ X2 ++ Y ++ R = P ++ (X1 ++ X2) ++ Y ++ R by simp] at hs
  refine hs.mono fun _ M z h => ?_
  subst h
  refine XR.nil ?_
  refine EvC.b ?_ (hok := by exact inI64_of (by omega) (by omega))
  refine ⟨[(0, 0)], (P ++ Y, X2, X1, R), rfl, ?_, ⟨by rw [← k1]; simp, fun (e : X2 = []) => by rw [e] at hX2; simp at hX2; omega, fun (e : X1 = []) => by rw [e] at hX1; simp at hX1; omega, by simp at k4 ⊢; omega⟩, by simp; omega⟩
  simp only
  rw [hX1, hX2, show ((i - j : Nat) : Int) = (i : Int) - j by omega]
  simp only [go_sem, sM_fcs, fcs_norefs] <;> rfl
 ·refine EvC.cf ?_ (by simp only [go_sem, decide_eq_false (show ¬ (j : Int) < i by omega)] <;> rfl)
  have hI5 : inI64 ((m : Int) + j) = true := inI64_of (by omega) (by omega)
  have hI6 : inI64 ((m : Int) + j - i) = true := inI64_of (by omega) (by omega)
  apply EvC.seq
  apply EvC.region
  apply XR.run
  ·simp only [go_sem] <;> rfl
  ·simp [hI3, hI5, hI6]
  have hmj : (m : Int) + j - i = ((m + j - i : Nat) : Int) := by omega
  refine XR.gcTo ⟨[(0, .tv 0 N 0 N (.val N)), (2, .sc (.int .i64 m)), (4, .fn 44 []), (10, .sc (.int .i64 i)), (11, .sc (.int .i64 j)), (35, .tv 0 N 0 N (.val N)), (38, .sc (.int .i64 P.length)), (43, .sc (.int .i64 ((m + j - i : Nat) : Int))), (44, .sc (.int .i64 i)), (45, .fn 44 [])], [], sM (P ++ X ++ Y ++ R), 1⟩ [0, 2, 4, 10, 11, 35, 38, 43, 44, 45] [(0, 0)] rfl (by rw [← hmi, ← hmj]; simp only [go_sem, sM_fcs, fcs_norefs] <;> rfl) ?_
  apply XR.callI rfl rfl (by simp only [go_sem] <;> rfl) (by simp only [go_sem] <;> rfl) (by simp only [go_sem] <;> rfl)
  obtain ⟨Y1, Y2, rfl, hY2⟩ : ∃ Y1 Y2, Y = Y1 ++ Y2 ∧ Y2.length = i := ⟨Y.take (j - i), Y.drop (j - i), (List.take_append_drop _ Y).symm, by simp; omega⟩
  have hY1 : Y1.length = j - i := by rw [hj, List.length_append, hY2]; omega
  have hs := swap_body P X Y1 Y2 R P.length (m + j - i) i N rfl (by omega) hi hY2 (by simp at hLl ⊢; omega) hl
  rw [show P ++ X ++ Y1 ++ Y2 ++ R = P ++ X ++ (Y1 ++ Y2) ++ R by simp] at hs
  refine hs.mono fun _ M z h => ?_
  subst h
  refine XR.nil ?_
  refine EvC.b ?_ (hok := by exact inI64_of (by omega) (by omega))
  refine ⟨[(0, 0)], (P, Y2, Y1, X ++ R), rfl, ?_, ⟨by rw [← k1]; simp, fun (e : Y2 = []) => by rw [e] at hY2; simp at hY2; omega, fun (e : Y1 = []) => by rw [e] at hY1; simp at hY1; omega, by simp; omega⟩, by simp; omega⟩
  simp only
  rw [hY1, hY2, show ((j - i : Nat) : Int) = (j : Int) - i by omega, show P ++ Y2 ++ Y1 ++ (X ++ R) = P ++ Y2 ++ Y1 ++ X ++ R by simp]
  simp only [go_sem, sM_fcs, fcs_norefs] <;> rfl
theorem half_u {z : Int} (h0 : 0 ≤ z) (h1 : z < 4000000) : shiftOf .shr .u64 (IntKind.wrap .u64 z) 1 = z / 2 := by
 have e : IntKind.wrap .u64 z = z := by
  simp only [IntKind.wrap, IntKind.signed, IntKind.bits, Bool.false_and, Bool.false_eq_true, if_false]
  exact Int.emod_eq_of_lt h0 (by omega)
 rw [e]
 show z.fdiv (2 ^ min 1 64) = _
 rw [Int.fdiv_eq_ediv_of_nonneg _ (by decide)]; rfl
theorem lt_le {f g h : FA} (h1 : leE f g = true) (h2 : ltE g h = true) : ltE f h = true := by
 rw [ltE_iff] at *; rw [leE_iff] at h1; omega
theorem le_lt {f g h : FA} (h1 : ltE f g = true) (h2 : leE g h = true) : ltE f h = true := by
 rw [ltE_iff] at *; rw [leE_iff] at h2; omega
theorem fa_swap3 {l r : List FA} {x y : FA} : (((l ++ x :: y :: r).map FA.cells).set l.length y.cells).set (l.length + 1) x.cells = (l ++ y :: x :: r).map FA.cells := by
 have h := fa_swap2 (l := l) (m := []) (r := r) (x := x) (y := y)
 simpa only [List.nil_append, List.length_nil, Nat.add_zero] using h
theorem fa_at1 {l r : List FA} {x y : FA} : ((l ++ x :: y :: r).map FA.cells)[l.length + 1]? = some y.cells := by
 have h := fa_at2 (l := l) (m := []) (r := r) (x := x) (y := y)
 simpa only [List.nil_append, List.length_nil, Nat.add_zero] using h
set_option maxHeartbeats 4000000 in
theorem merge1_body (p B r : List FA) (x : FA) (a m b N : Nat) (ha : a = p.length) (hm : m = a + 1) (hb : b = m + B.length) (hB : SrtE B) (hN : N = (p ++ [x] ++ B ++ r).length) (hl : N < 1000000) :
  BodyIs prog 103 [.tv 0 N 0 N (.val N), .sc (.int .i64 a), .sc (.int .i64 m), .sc (.int .i64 b), .fn 44 []] (sM (p ++ [x] ++ B ++ r)) 1 (fun _ M _ => M = sM (p ++ srtE ([x] ++ B) ++ r)) := by
 have hNn : (p ++ [x] ++ B ++ r).length = p.length + 1 + B.length + r.length := by simp; omega
 refine BodyIs.of (nv := 5) (hid := [10, 11, 12, 13, 14, 15, 16, 17, 18, 19, 20, 21, 22, 23, 24, 28, 33, 50, 58, 80, 85, 103, 110, 140, 151, 171, 185, 199, 213]) func103 rfl (by kernel_rfl) (by simp [ntmps103]) fun _ => ?_
 rw [ntmps103, results103]
 refine EvC.seq ?_
 have hNN : N = p.length + 1 + B.length + r.length := hN.trans hNn
 have hma : (m : Int) - a = 1 := by omega
 have hI1 : inI64 1 = true := inI64_of (by omega) (by omega)
 refine EvC.a ?_ (by simp only [go_sem, hma] <;> rfl) (by simp [hI1])
 refine EvC.ct ?_
 refine EvC.a ?_
 refine EvC.a ?_
 refine EvC.seq ?_
 refine EvC.block ?_
 refine EvC.loopS (σ := Nat × Nat) (fun g => ⟨[(0, .tv 0 N 0 N (.val N)), (1, .sc (.int .i64 a)), (4, .fn 44 []), (10, .sc (.int .i64 ((m + g.1 : Nat) : Int))), (11, .sc (.int .i64 ((m + g.2 : Nat) : Int)))], [], sM (p ++ [x] ++ B ++ r), 1⟩) (fun g => g.2 - g.1)
  (fun g => g.1 ≤ g.2 ∧ g.2 ≤ B.length ∧ (∀ y ∈ B.take g.1, ltE y x = true) ∧ ∀ y ∈ B.drop g.2, leE x y = true) [0, 1, 4, 10, 11] 1 ?_ ?_
 ·exact ⟨[(0, 0)], (0, B.length), rfl, (by simp only [Nat.add_zero]; rw [← hb]; simp only [go_sem, sM_fcs, fcs_norefs] <;> rfl), Nat.zero_le _, Nat.le_refl _, (fun y h => by simp at h), fun y h => by simp at h⟩
 rintro ⟨i, j⟩ ⟨i1, i2, i3, i4⟩
 simp only at i1 i2 i3 i4 ⊢
 obtain ⟨iZ, hiZ⟩ : ∃ z : Int, z = ((m + i : Nat) : Int) := ⟨_, rfl⟩
 obtain ⟨jZ, hjZ⟩ : ∃ z : Int, z = ((m + j : Nat) : Int) := ⟨_, rfl⟩
 rw [← hiZ, ← hjZ]
 refine EvC.seq ?_
 refine EvC.a ?_
 by_cases hij : i < j
 rotate_left
 ·refine EvC.cf ?_ (by simp only [go_sem, decide_eq_false (show ¬ iZ < jZ by omega)] <;> rfl)
  refine EvC.exit ?_
  obtain rfl : i = j := by omega
  obtain ⟨B1, hB1⟩ : ∃ B1, B1 = B.take i := ⟨_, rfl⟩
  obtain ⟨B2, hB2⟩ : ∃ B2, B2 = B.drop i := ⟨_, rfl⟩
  have hBe : B = B1 ++ B2 := by rw [hB1, hB2, List.take_append_drop]
  have hB1l : B1.length = i := by rw [hB1, List.length_take]; omega
  rw [← hB1] at i3
  rw [← hB2] at i4
  have hres : srtE ([x] ++ B) = B1 ++ x :: B2 := by
   symm
   rw [hBe] at hB ⊢
   obtain ⟨h1, h2, h3⟩ := List.pairwise_append.1 hB
   refine srtE_eq (List.pairwise_append.2 ⟨h1, List.pairwise_cons.2 ⟨i4, h2⟩, fun y hy z hz => ?_⟩) fun s k => ?_
   ·rcases List.mem_cons.1 hz with rfl | hz
    ·exact leE_of_lt (i3 y hy)
    ·exact h3 y hy z hz
   ·rw [List.filter_append, List.filter_append, List.filter_append]
    by_cases hx : atE s k x = true
    ·have : B1.filter (atE s k) = [] := by
       rw [List.filter_eq_nil_iff]
       intro y hy hy2
       rw [atE_iff] at hx hy2
       have := ltE_iff.1 (i3 y hy)
       omega
     rw [this, List.filter_cons_of_pos hx, List.filter_cons_of_pos hx]; rfl
    ·rw [List.filter_cons_of_neg hx, List.filter_cons_of_neg hx]; rfl
  rw [hres, hBe]
  rw [hBe, List.length_append] at hb hNN
  clear i1 i2 hB1 hB2 hres hBe hN hNn
  refine EvC.seq ?_
  refine EvC.a ?_
  refine EvC.block ?_
  refine EvC.loopS (σ := List FA × List FA) (fun g => ⟨[(0, .tv 0 N 0 N (.val N)), (10, .sc (.int .i64 iZ)), (13, .sc (.int .i64 ((a + g.1.length : Nat) : Int)))], [], sM (p ++ g.1 ++ x :: (g.2 ++ B2 ++ r)), 1⟩) (fun g => g.2.length) (fun g => g.1 ++ g.2 = B1) [0, 10, 13] 1 ?_ ?_
  ·exact ⟨[(0, 0)], ([], B1), rfl, (by rw [show p ++ [x] ++ (B1 ++ B2) ++ r = p ++ [] ++ x :: (B1 ++ B2 ++ r) by simp]; simp only [go_sem, sM_fcs, fcs_norefs, List.length_nil, Nat.add_zero] <;> rfl), rfl⟩
  rintro ⟨C1, C2⟩ k1
  simp only at k1 ⊢
  have hCl : C1.length + C2.length = i := by rw [← hB1l, ← k1, List.length_append]
  obtain ⟨kZ, hkZ⟩ : ∃ z : Int, z = ((a + C1.length : Nat) : Int) := ⟨_, rfl⟩
  rw [← hkZ]
  have hI4 : inI64 (iZ - 1) = true := inI64_of (by omega) (by omega)
  refine EvC.seq ?_
  refine EvC.a ?_ (hok := by simp [hI4])
  cases C2 with
  | nil =>
    simp at hCl
    refine EvC.cf ?_ (by simp only [go_sem, decide_eq_false (show ¬ kZ < iZ - 1 by omega)] <;> rfl)
    refine EvC.exit ?_
    refine EvC.ret ⟨.inl rfl, _, rfl, ?_⟩
    rw [List.append_nil] at k1
    rw [k1]
    show sM _ = sM _
    simp
  | cons y C2 =>
    simp at hCl
    refine EvC.cr ?_ (by simp only [go_sem, decide_eq_true (show kZ < iZ - 1 by omega)] <;> rfl)
    refine EvC.seq ?_
    refine EvC.block ?_
    have hW : p ++ C1 ++ x :: (y :: C2 ++ B2 ++ r) = (p ++ C1) ++ x :: y :: (C2 ++ B2 ++ r) := by simp
    rw [hW]
    have hkn : kZ.toNat = (p ++ C1).length := by simp; omega
    have hkn1 : (kZ + 1).toNat = (p ++ C1).length + 1 := by omega
    have hx0 := fa_at (l := p ++ C1) (r := y :: (C2 ++ B2 ++ r)) (x := x)
    have hy0 := fa_at1 (l := p ++ C1) (r := C2 ++ B2 ++ r) (x := x) (y := y)
    have hsw := fa_swap3 (l := p ++ C1) (r := C2 ++ B2 ++ r) (x := x) (y := y)
    have hLn : (((p ++ C1) ++ x :: y :: (C2 ++ B2 ++ r)).map FA.cells).length = N := by
     have := congrArg List.length k1
     simp at this ⊢; omega
    have hSn := fas_norefs2 ((p ++ C1) ++ y :: x :: (C2 ++ B2 ++ r))
    rw [← hkn1] at hsw hy0
    rw [← hkn] at hsw hx0
    have hg2 : ∀ c : List AV, ((((p ++ C1) ++ x :: y :: (C2 ++ B2 ++ r)).map FA.cells).set kZ.toNat c)[(kZ + 1).toNat]? = some y.cells := fun c => by
     rw [List.getElem?_set_ne (by omega)]; exact hy0
    have hLn2 : ∀ c : List AV, ((((p ++ C1) ++ x :: y :: (C2 ++ B2 ++ r)).map FA.cells).set kZ.toNat c).length = N := fun c => by rw [List.length_set]; exact hLn
    obtain ⟨Z, hZ⟩ : ∃ Z, Z = ((p ++ C1) ++ x :: y :: (C2 ++ B2 ++ r)).map FA.cells := ⟨_, rfl⟩
    obtain ⟨Z2, hZ2⟩ : ∃ Z, Z = ((p ++ C1) ++ y :: x :: (C2 ++ B2 ++ r)).map FA.cells := ⟨_, rfl⟩
    rw [← hZ, ← hZ2] at hsw
    rw [← hZ] at hx0 hy0 hLn hg2 hLn2
    rw [← hZ2] at hSn
    rw [FA.cells] at hx0 hy0
    simp only [FA.cells] at hg2
    rw [FA.cells, FA.cells] at hsw
    rw [sM, ← hZ]
    have hI5 : inI64 (kZ + 1) = true := inI64_of (by omega) (by omega)
    have hkb : 0 ≤ kZ ∧ kZ.toNat < N ∧ 0 ≤ kZ + 1 ∧ (kZ + 1).toNat < N := by
     have : (p ++ C1).length + 2 ≤ N := by simp; omega
     omega
    apply EvC.drwA mixed
    ·apply Tr.done
     ·simp only [go_sem, hx0, hy0, hLn, hg2, hLn2, hsw] <;> rfl
     ·simp [hI5, hkb]
    ·kernel_rfl
    refine EvC.b ?_ (hok := by simp [hI5])
    exact ⟨[(0, 0)], (C1 ++ [y], C2), rfl, (by rw [show ((a + (C1 ++ [y]).length : Nat) : Int) = kZ + 1 by simp; omega, show p ++ (C1 ++ [y]) ++ x :: (C2 ++ B2 ++ r) = (p ++ C1) ++ y :: x :: (C2 ++ B2 ++ r) by simp, sM, ← hZ2]; simp only [go_sem, hSn] <;> rfl), (by rw [← k1]; simp), by simp⟩
 refine EvC.cr ?_ (by simp only [go_sem, decide_eq_true (show iZ < jZ by omega)] <;> rfl)
 refine EvC.block ?_
 have hI2 : inI64 (iZ + jZ) = true := inI64_of (by omega) (by omega)
 obtain ⟨h, hh⟩ : ∃ h, h = (i + j) / 2 := ⟨_, rfl⟩
 obtain ⟨hZ, hhZ⟩ : ∃ z : Int, z = ((m + h : Nat) : Int) := ⟨_, rfl⟩
 have hhalf : shiftOf .shr .u64 (IntKind.wrap .u64 (iZ + jZ)) 1 = hZ := by rw [half_u (by omega) (by omega)]; omega
 have hI3 : inI64 hZ = true := inI64_of (by omega) (by omega)
 refine EvC.a ?_ (by simp only [go_sem, hhalf] <;> rfl) (by simp [hI2, hI3])
 have hhl : h < B.length := by omega
 have hdr : B.drop h = B[h] :: B.drop (h + 1) := List.drop_eq_getElem_cons hhl
 have htk : B.take (h + 1) = B.take h ++ [B[h]] := List.take_succ_eq_append_getElem hhl
 generalize B[h] = y at hdr htk
 have hBe : B = B.take h ++ y :: B.drop (h + 1) := by rw [← hdr, List.take_append_drop]
 have hW : p ++ [x] ++ B ++ r = p ++ x :: (B.take h ++ y :: (B.drop (h + 1) ++ r)) := by
  have e : p ++ [x] ++ (B.take h ++ y :: B.drop (h + 1)) ++ r = p ++ x :: (B.take h ++ y :: (B.drop (h + 1) ++ r)) := by simp
  rw [← hBe] at e; exact e
 have hBt : (B.take h).length = h := by rw [List.length_take]; omega
 have hx0 := fa_at (l := p) (r := B.take h ++ y :: (B.drop (h + 1) ++ r)) (x := x)
 have hy0 := fa_at2 (l := p) (m := B.take h) (r := B.drop (h + 1) ++ r) (x := x) (y := y)
 rw [← hW, ← ha] at hx0
 rw [← hW, hBt, ← ha, show a + 1 + h = hZ.toNat by omega] at hy0
 have hLn : ((p ++ [x] ++ B ++ r).map FA.cells).length = N := by rw [List.length_map, ← hN]
 obtain ⟨Z, hZe⟩ : ∃ Z, Z = (p ++ [x] ++ B ++ r).map FA.cells := ⟨_, rfl⟩
 have hSn := fas_norefs2 (p ++ [x] ++ B ++ r)
 rw [← hZe] at hx0 hy0 hLn hSn
 rw [FA.cells] at hx0 hy0
 have q := edge_is y x
 have hlt := edgeI_lt y x
 rw [FA.cells, FA.cells] at q
 generalize edgeI y x = eZ at q hlt
 have hBs := hB
 rw [hBe] at hBs
 obtain ⟨b1, b2, b3⟩ := List.pairwise_append.1 hBs
 have han : (a : Int).toNat = a := Int.toNat_natCast a
 rw [sM, ← hZe]
 refine EvC.k1D mixed ?_ (h1 := by simp only [go_sem, hx0, hy0, hLn, han] <;> rfl) (k1 := by simp; omega) (c1 := .ca q) (h2 := by simp only [go_sem, hlt] <;> rfl)
 cases hc : ltE y x with
 | true =>
   rw [hc] at hlt
   refine EvC.ct ?_ (by simp only [go_sem, hlt] <;> rfl)
   refine EvC.b ?_ (hok := by exact inI64_of (by omega) (by omega))
   refine ⟨[(0, 0)], (h + 1, j), rfl, (by rw [show ((m + (h + 1) : Nat) : Int) = hZ + 1 by omega, ← hjZ]; simp only [go_sem, hSn] <;> rfl), ⟨by omega, i2, fun z hz => ?_, i4⟩, by simp only; omega⟩
   simp only [htk] at hz
   rcases List.mem_append.1 hz with hz | hz
   ·exact lt_le (b3 z hz y List.mem_cons_self) hc
   ·rw [List.mem_singleton.1 hz]; exact hc
 | false =>
   rw [hc] at hlt
   refine EvC.cf ?_ (by simp only [go_sem, hlt] <;> rfl)
   refine EvC.b ?_
   refine ⟨[(0, 0)], (i, h), rfl, (by rw [← hiZ, ← hhZ]; simp only [go_sem, hSn] <;> rfl), ⟨by omega, by omega, i3, fun z hz => ?_⟩, by simp only; omega⟩
   have hxy : leE x y = true := by rw [leE, hc]; rfl
   simp only [hdr] at hz
   rcases List.mem_cons.1 hz with rfl | hz
   ·exact hxy
   ·exact leE_trans hxy ((List.pairwise_cons.1 b2).1 z hz)
set_option maxHeartbeats 4000000 in
theorem merge2_body (p A r : List FA) (y : FA) (a m b N : Nat) (ha : a = p.length) (hm : m = a + A.length) (hb : b = m + 1) (hA : SrtE A) (hA1 : A.length ≠ 1) (hN : N = (p ++ A ++ [y] ++ r).length) (hl : N < 1000000) :
  BodyIs prog 103 [.tv 0 N 0 N (.val N), .sc (.int .i64 a), .sc (.int .i64 m), .sc (.int .i64 b), .fn 44 []] (sM (p ++ A ++ [y] ++ r)) 1 (fun _ M _ => M = sM (p ++ srtE (A ++ [y]) ++ r)) := by
 have hNn : (p ++ A ++ [y] ++ r).length = p.length + A.length + 1 + r.length := by simp; omega
 have hNN : N = p.length + A.length + 1 + r.length := hN.trans hNn
 refine BodyIs.of (nv := 5) (hid := [10, 11, 12, 13, 14, 15, 16, 17, 18, 19, 20, 21, 22, 23, 24, 28, 33, 50, 58, 80, 85, 103, 110, 140, 151, 171, 185, 199, 213]) func103 rfl (by kernel_rfl) (by simp [ntmps103]) fun _ => ?_
 rw [ntmps103, results103]
 refine EvC.seq ?_
 have hI0 : inI64 ((m : Int) - a) = true := inI64_of (by omega) (by omega)
 refine EvC.a ?_ (hok := by simp [hI0])
 refine EvC.cs ?_ (by simp only [go_sem, decide_eq_false (show ¬ (m : Int) - a = 1 by omega)] <;> rfl)
 refine EvC.seq ?_
 have hma : (b : Int) - m = 1 := by omega
 have hI1 : inI64 1 = true := inI64_of (by omega) (by omega)
 refine EvC.a ?_ (by simp only [go_sem, hma] <;> rfl) (by simp [hI1])
 refine EvC.ct ?_
 refine EvC.a ?_
 refine EvC.a ?_
 refine EvC.seq ?_
 refine EvC.block ?_
 refine EvC.loopS (σ := Nat × Nat) (fun g => ⟨[(0, .tv 0 N 0 N (.val N)), (2, .sc (.int .i64 m)), (4, .fn 44 []), (14, .sc (.int .i64 ((a + g.1 : Nat) : Int))), (15, .sc (.int .i64 ((a + g.2 : Nat) : Int)))], [], sM (p ++ A ++ [y] ++ r), 1⟩) (fun g => g.2 - g.1)
  (fun g => g.1 ≤ g.2 ∧ g.2 ≤ A.length ∧ (∀ z ∈ A.take g.1, leE z y = true) ∧ ∀ z ∈ A.drop g.2, ltE y z = true) [0, 2, 4, 14, 15] 1 ?_ ?_
 ·exact ⟨[(0, 0)], (0, A.length), rfl, (by simp only [Nat.add_zero]; rw [← hm]; simp only [go_sem, sM_fcs, fcs_norefs] <;> rfl), Nat.zero_le _, Nat.le_refl _, (fun y h => by simp at h), fun y h => by simp at h⟩
 rintro ⟨i, j⟩ ⟨i1, i2, i3, i4⟩
 simp only at i1 i2 i3 i4 ⊢
 obtain ⟨iZ, hiZ⟩ : ∃ z : Int, z = ((a + i : Nat) : Int) := ⟨_, rfl⟩
 obtain ⟨jZ, hjZ⟩ : ∃ z : Int, z = ((a + j : Nat) : Int) := ⟨_, rfl⟩
 rw [← hiZ, ← hjZ]
 refine EvC.seq ?_
 refine EvC.a ?_
 by_cases hij : i < j
 rotate_left
 ·refine EvC.cf ?_ (by simp only [go_sem, decide_eq_false (show ¬ iZ < jZ by omega)] <;> rfl)
  refine EvC.exit ?_
  obtain rfl : i = j := by omega
  obtain ⟨A1, hB1⟩ : ∃ A1, A1 = A.take i := ⟨_, rfl⟩
  obtain ⟨A2, hB2⟩ : ∃ A2, A2 = A.drop i := ⟨_, rfl⟩
  have hBe : A = A1 ++ A2 := by rw [hB1, hB2, List.take_append_drop]
  have hB1l : A1.length = i := by rw [hB1, List.length_take]; omega
  rw [← hB1] at i3
  rw [← hB2] at i4
  have hres : srtE (A ++ [y]) = A1 ++ y :: A2 := by
   have h1 : A1 ++ A2 = srtE A := by rw [← hBe, srtE_id hA]
   exact (srt_put h1 i4 i3).symm
  rw [hres, hBe]
  rw [hBe, List.length_append] at hm hNN
  clear i1 i2 hB1 hB2 hres hBe hN hNn hA1
  refine EvC.seq ?_
  refine EvC.a ?_
  refine EvC.block ?_
  refine EvC.loopS (σ := List FA × List FA) (fun g => ⟨[(0, .tv 0 N 0 N (.val N)), (14, .sc (.int .i64 iZ)), (17, .sc (.int .i64 ((a + A1.length + g.1.length : Nat) : Int)))], [], sM (p ++ A1 ++ g.1 ++ y :: (g.2 ++ r)), 1⟩) (fun g => g.1.length) (fun g => g.1 ++ g.2 = A2) [0, 14, 17] 1 ?_ ?_
  ·exact ⟨[(0, 0)], (A2, []), rfl, (by rw [show p ++ (A1 ++ A2) ++ [y] ++ r = p ++ A1 ++ A2 ++ y :: ([] ++ r) by simp, show ((a + A1.length + A2.length : Nat) : Int) = (m : Int) by omega]; simp only [go_sem, sM_fcs, fcs_norefs] <;> rfl), List.append_nil _⟩
  rintro ⟨C1, C2⟩ k1
  simp only at k1 ⊢
  have hCl : C1.length + C2.length = A2.length := by rw [← k1, List.length_append]
  obtain ⟨kZ, hkZ⟩ : ∃ z : Int, z = ((a + A1.length + C1.length : Nat) : Int) := ⟨_, rfl⟩
  rw [← hkZ]
  refine EvC.seq ?_
  refine EvC.a ?_
  rcases List.eq_nil_or_concat C1 with rfl | ⟨C, z, hsy⟩
  ·simp at hCl
   simp at hkZ
   refine EvC.cf ?_ (by simp only [go_sem, decide_eq_false (show ¬ iZ < kZ by omega)] <;> rfl)
   refine EvC.exit ?_
   refine EvC.ret ⟨.inl rfl, _, rfl, ?_⟩
   rw [List.nil_append] at k1
   rw [k1]
   show sM _ = sM _
   simp
  ·rw [List.concat_eq_append] at hsy
   subst hsy
   simp at hCl
   simp at hkZ
   refine EvC.cr ?_ (by simp only [go_sem, decide_eq_true (show iZ < kZ by omega)] <;> rfl)
   refine EvC.seq ?_
   refine EvC.block ?_
   have hW : p ++ A1 ++ (C ++ [z]) ++ y :: (C2 ++ r) = (p ++ A1 ++ C) ++ z :: y :: (C2 ++ r) := by simp
   rw [hW]
   have hkn1 : (kZ - 1).toNat = (p ++ A1 ++ C).length := by simp; omega
   have hkn : kZ.toNat = (p ++ A1 ++ C).length + 1 := by omega
   have hx0 := fa_at1 (l := p ++ A1 ++ C) (r := C2 ++ r) (x := z) (y := y)
   have hy0 := fa_at (l := p ++ A1 ++ C) (r := y :: (C2 ++ r)) (x := z)
   have hsw := fa_swap (l := p ++ A1 ++ C) (r := C2 ++ r) (x := y) (y := z)
   have hLn : (((p ++ A1 ++ C) ++ z :: y :: (C2 ++ r)).map FA.cells).length = N := by
    have := congrArg List.length k1
    simp at this ⊢; omega
   have hSn := fas_norefs2 ((p ++ A1 ++ C) ++ y :: z :: (C2 ++ r))
   rw [← hkn] at hsw hx0
   rw [← hkn1] at hsw hy0
   have hg2 : ∀ c : List AV, ((((p ++ A1 ++ C) ++ z :: y :: (C2 ++ r)).map FA.cells).set kZ.toNat c)[(kZ - 1).toNat]? = some z.cells := fun c => by
    rw [List.getElem?_set_ne (by omega)]; exact hy0
   have hLn2 : ∀ c : List AV, ((((p ++ A1 ++ C) ++ z :: y :: (C2 ++ r)).map FA.cells).set kZ.toNat c).length = N := fun c => by rw [List.length_set]; exact hLn
   obtain ⟨Z, hZ⟩ : ∃ Z, Z = ((p ++ A1 ++ C) ++ z :: y :: (C2 ++ r)).map FA.cells := ⟨_, rfl⟩
   obtain ⟨Z2, hZ2⟩ : ∃ Z, Z = ((p ++ A1 ++ C) ++ y :: z :: (C2 ++ r)).map FA.cells := ⟨_, rfl⟩
   rw [← hZ, ← hZ2] at hsw
   rw [← hZ] at hx0 hy0 hLn hg2 hLn2
   rw [← hZ2] at hSn
   rw [FA.cells] at hx0 hy0
   simp only [FA.cells] at hg2
   rw [FA.cells, FA.cells] at hsw
   rw [sM, ← hZ]
   have hI5 : inI64 (kZ - 1) = true := inI64_of (by omega) (by omega)
   have hkb : 0 ≤ kZ ∧ kZ.toNat < N ∧ 1 ≤ kZ ∧ (kZ - 1).toNat < N ∧ kZ.toNat - 1 < N := by
    have : (p ++ A1 ++ C).length + 2 ≤ N := by simp; omega
    omega
   apply EvC.drwA mixed
   ·apply Tr.done
    ·simp only [go_sem, hx0, hy0, hLn, hg2, hLn2, hsw] <;> rfl
    ·simp [hI5, hkb]
   ·kernel_rfl
   refine EvC.b ?_ (hok := by simp [hI5])
   exact ⟨[(0, 0)], (C, z :: C2), rfl, (by rw [show ((a + A1.length + C.length : Nat) : Int) = kZ - 1 by omega, show p ++ A1 ++ C ++ y :: (z :: C2 ++ r) = (p ++ A1 ++ C) ++ y :: z :: (C2 ++ r) by simp, sM, ← hZ2]; simp only [go_sem, hSn] <;> rfl), (by rw [← k1]; simp), by simp⟩
 refine EvC.cr ?_ (by simp only [go_sem, decide_eq_true (show iZ < jZ by omega)] <;> rfl)
 refine EvC.block ?_
 have hI2 : inI64 (iZ + jZ) = true := inI64_of (by omega) (by omega)
 obtain ⟨h, hh⟩ : ∃ h, h = (i + j) / 2 := ⟨_, rfl⟩
 obtain ⟨hZ, hhZ⟩ : ∃ z : Int, z = ((a + h : Nat) : Int) := ⟨_, rfl⟩
 have hhalf : shiftOf .shr .u64 (IntKind.wrap .u64 (iZ + jZ)) 1 = hZ := by rw [half_u (by omega) (by omega)]; omega
 have hI3 : inI64 hZ = true := inI64_of (by omega) (by omega)
 refine EvC.a ?_ (by simp only [go_sem, hhalf] <;> rfl) (by simp [hI2, hI3])
 have hhl : h < A.length := by omega
 have hdr : A.drop h = A[h] :: A.drop (h + 1) := List.drop_eq_getElem_cons hhl
 have htk : A.take (h + 1) = A.take h ++ [A[h]] := List.take_succ_eq_append_getElem hhl
 generalize A[h] = x at hdr htk
 have hBe : A = A.take h ++ x :: A.drop (h + 1) := by rw [← hdr, List.take_append_drop]
 have hW : p ++ A ++ [y] ++ r = (p ++ A.take h) ++ x :: (A.drop (h + 1) ++ y :: r) := by
  have e : p ++ (A.take h ++ x :: A.drop (h + 1)) ++ [y] ++ r = (p ++ A.take h) ++ x :: (A.drop (h + 1) ++ y :: r) := by simp
  rw [← hBe] at e; exact e
 have hBt : (p ++ A.take h).length = a + h := by rw [List.length_append, List.length_take]; omega
 have hBd : (A.drop (h + 1)).length = A.length - (h + 1) := List.length_drop
 have hx0 := fa_at (l := p ++ A.take h) (r := A.drop (h + 1) ++ y :: r) (x := x)
 have hy0 := fa_at2 (l := p ++ A.take h) (m := A.drop (h + 1)) (r := r) (x := x) (y := y)
 rw [← hW, hBt, show a + h = hZ.toNat by omega] at hx0
 rw [← hW, hBt, hBd, show a + h + 1 + (A.length - (h + 1)) = m by omega] at hy0
 have hLn : ((p ++ A ++ [y] ++ r).map FA.cells).length = N := by rw [List.length_map, ← hN]
 obtain ⟨Z, hZe⟩ : ∃ Z, Z = (p ++ A ++ [y] ++ r).map FA.cells := ⟨_, rfl⟩
 have hSn := fas_norefs2 (p ++ A ++ [y] ++ r)
 rw [← hZe] at hx0 hy0 hLn hSn
 rw [FA.cells] at hx0 hy0
 have q := edge_is y x
 have hlt := edgeI_lt y x
 rw [FA.cells, FA.cells] at q
 generalize edgeI y x = eZ at q hlt
 have hBs := hA
 rw [hBe] at hBs
 obtain ⟨b1, b2, b3⟩ := List.pairwise_append.1 hBs
 have han : (m : Int).toNat = m := Int.toNat_natCast m
 rw [sM, ← hZe]
 refine EvC.k1D mixed ?_ (h1 := by simp only [go_sem, hx0, hy0, hLn, han] <;> rfl) (k1 := by simp; omega) (c1 := .ca q) (h2 := by simp only [go_sem, hlt] <;> rfl)
 cases hc : ltE y x with
 | false =>
   rw [hc] at hlt
   refine EvC.ct ?_ (by simp only [go_sem, hlt] <;> rfl)
   refine EvC.b ?_ (hok := by exact inI64_of (by omega) (by omega))
   refine ⟨[(0, 0)], (h + 1, j), rfl, (by rw [show ((a + (h + 1) : Nat) : Int) = hZ + 1 by omega, ← hjZ]; simp only [go_sem, hSn] <;> rfl), ⟨by omega, i2, fun z hz => ?_, i4⟩, by simp only; omega⟩
   have hxy : leE x y = true := by rw [leE, hc]; rfl
   simp only [htk] at hz
   rcases List.mem_append.1 hz with hz | hz
   ·exact leE_trans (b3 z hz x List.mem_cons_self) hxy
   ·rw [List.mem_singleton.1 hz]; exact hxy
 | true =>
   rw [hc] at hlt
   refine EvC.cf ?_ (by simp only [go_sem, hlt] <;> rfl)
   refine EvC.b ?_
   refine ⟨[(0, 0)], (i, h), rfl, (by rw [← hiZ, ← hhZ]; simp only [go_sem, hSn] <;> rfl), ⟨by omega, by omega, i3, fun z hz => ?_⟩, by simp only; omega⟩
   simp only [hdr] at hz
   rcases List.mem_cons.1 hz with rfl | hz
   ·exact hc
   ·exact le_lt hc ((List.pairwise_cons.1 b2).1 z hz)
def MergeOk (K : Nat) : Prop := ∀ (p A B r : List FA) (a m b N : Nat), a = p.length → m = a + A.length → b = m + B.length → A ≠ [] → B ≠ [] → SrtE A → SrtE B → N = (p ++ A ++ B ++ r).length → N < 1000000 → A.length + B.length ≤ K →
 BodyIs prog 103 [.tv 0 N 0 N (.val N), .sc (.int .i64 a), .sc (.int .i64 m), .sc (.int .i64 b), .fn 44 []] (sM (p ++ A ++ B ++ r)) 1 (fun _ M _ => M = sM (p ++ srtE (A ++ B) ++ r))
def CutL (A B : List FA) (i k : Nat) : Prop := ∀ x ∈ A.take i, ∀ y ∈ B.drop k, leE x y = true
def CutR (A B : List FA) (i k : Nat) : Prop := ∀ x ∈ A.drop i, ∀ y ∈ B.take k, ltE y x = true
theorem srt_take {l : List FA} (h : SrtE l) (i : Nat) : SrtE (l.take i) := List.Pairwise.sublist (List.take_sublist i l) h
theorem srt_drop {l : List FA} (h : SrtE l) (i : Nat) : SrtE (l.drop i) := List.Pairwise.sublist (List.drop_sublist i l) h
theorem srt_cut {l : List FA} (h : SrtE l) (i : Nat) : ∀ x ∈ l.take i, ∀ y ∈ l.drop i, leE x y = true := by
 have h2 := h
 rw [← List.take_append_drop i l] at h2
 exact (List.pairwise_append.1 h2).2.2
theorem cut_left {A B : List FA} (hA : SrtE A) (hB : SrtE B) {i k : Nat} (hi : i < A.length) (hk : k < B.length) (h : leE A[i] B[k] = true) : CutL A B (i + 1) k := by
 intro x hx y hy
 have h1 : leE x A[i] = true := by
  rw [List.take_succ_eq_append_getElem hi] at hx
  rcases List.mem_append.1 hx with hx | hx
  ·exact srt_cut hA i x hx _ (by rw [List.drop_eq_getElem_cons hi]; exact List.mem_cons_self)
  ·rw [List.mem_singleton.1 hx]; exact leE_refl _
 have h2 : leE B[k] y = true := by
  have hd := List.drop_eq_getElem_cons hk
  rw [hd] at hy
  rcases List.mem_cons.1 hy with rfl | hy
  ·exact leE_refl _
  ·have := srt_drop hB k
   rw [hd] at this
   exact (List.pairwise_cons.1 this).1 y hy
 exact leE_trans h1 (leE_trans h h2)
theorem cut_right {A B : List FA} (hA : SrtE A) (hB : SrtE B) {i k : Nat} (hi : i < A.length) (hk : k < B.length) (h : ltE B[k] A[i] = true) : CutR A B i (k + 1) := by
 intro x hx y hy
 have h1 : leE A[i] x = true := by
  have hd := List.drop_eq_getElem_cons hi
  rw [hd] at hx
  rcases List.mem_cons.1 hx with rfl | hx
  ·exact leE_refl _
  ·have := srt_drop hA i
   rw [hd] at this
   exact (List.pairwise_cons.1 this).1 x hx
 have h2 : leE y B[k] = true := by
  rw [List.take_succ_eq_append_getElem hk] at hy
  rcases List.mem_append.1 hy with hy | hy
  ·exact srt_cut hB k y hy _ (by rw [List.drop_eq_getElem_cons hk]; exact List.mem_cons_self)
  ·rw [List.mem_singleton.1 hy]; exact leE_refl _
 exact le_lt (lt_le h2 h) h1
set_option maxHeartbeats 8000000 in
theorem merge3_body (p A B r : List FA) (a m b N : Nat) (ha : a = p.length) (hm : m = a + A.length) (hb : b = m + B.length) (hA : SrtE A) (hB : SrtE B) (hA1 : 2 ≤ A.length) (hB1 : 2 ≤ B.length) (hN : N = (p ++ A ++ B ++ r).length) (hl : N < 1000000)
  (ih : MergeOk (A.length + B.length - 1)) :
  BodyIs prog 103 [.tv 0 N 0 N (.val N), .sc (.int .i64 a), .sc (.int .i64 m), .sc (.int .i64 b), .fn 44 []] (sM (p ++ A ++ B ++ r)) 1 (fun _ M _ => M = sM (p ++ srtE (A ++ B) ++ r)) := by
 have hNN : N = p.length + A.length + B.length + r.length := by rw [hN]; simp; omega
 refine BodyIs.of (nv := 5) (hid := [10, 11, 12, 13, 14, 15, 16, 17, 18, 19, 20, 21, 22, 23, 24, 28, 33, 50, 58, 80, 85, 103, 110, 140, 151, 171, 185, 199, 213, 186, 187, 188, 189, 190, 200, 201, 202, 203, 204, 214, 215, 216, 217, 218]) func103 rfl (by kernel_rfl) (by simp [ntmps103]) fun _ => ?_
 rw [ntmps103, results103]
 refine EvC.seq ?_
 have hI0 : inI64 ((m : Int) - a) = true := inI64_of (by omega) (by omega)
 have hI1 : inI64 ((b : Int) - m) = true := inI64_of (by omega) (by omega)
 refine EvC.a ?_ (hok := by simp [hI0])
 refine EvC.cs ?_ (by simp only [go_sem, decide_eq_false (show ¬ (m : Int) - a = 1 by omega)] <;> rfl)
 refine EvC.seq ?_
 refine EvC.a ?_ (hok := by simp [hI1])
 refine EvC.cs ?_ (by simp only [go_sem, decide_eq_false (show ¬ (b : Int) - m = 1 by omega)] <;> rfl)
 obtain ⟨mid, hmid⟩ : ∃ h, h = (a + b) / 2 := ⟨_, rfl⟩
 obtain ⟨n, hn⟩ : ∃ n, n = mid + m := ⟨_, rfl⟩
 obtain ⟨dZ, hdZ⟩ : ∃ z : Int, z = (mid : Int) := ⟨_, rfl⟩
 obtain ⟨nZ, hnZ⟩ : ∃ z : Int, z = (n : Int) := ⟨_, rfl⟩
 have hI2 : inI64 ((a : Int) + b) = true := inI64_of (by omega) (by omega)
 have hhalf : shiftOf .shr .u64 (IntKind.wrap .u64 ((a : Int) + b)) 1 = dZ := by rw [half_u (by omega) (by omega)]; omega
 have hI3 : inI64 dZ = true := inI64_of (by omega) (by omega)
 have hdm : dZ + (m : Int) = nZ := by omega
 have hI4 : inI64 nZ = true := inI64_of (by omega) (by omega)
 refine EvC.a ?_ (by simp only [go_sem, hhalf] <;> rfl) (by simp [hI2, hI3])
 refine EvC.a ?_ (by simp only [go_sem, hdm] <;> rfl) (by simp [hI4])
 refine EvC.a ?_
 refine EvC.mergeS (α := Nat × Nat) (fun g => ⟨[(0, .tv 0 N 0 N (.val N)), (1, .sc (.int .i64 a)), (2, .sc (.int .i64 m)), (3, .sc (.int .i64 b)), (4, .fn 44 []), (18, .sc (.int .i64 dZ)), (19, .sc (.int .i64 nZ)), (20, .sc (.int .i64 g.1)), (21, .sc (.int .i64 g.2))], [], sM (p ++ A ++ B ++ r), 1⟩)
  (fun g => a ≤ g.1 ∧ g.1 ≤ g.2 ∧ g.2 ≤ m ∧ m ≤ n - g.2 ∧ n - g.1 ≤ b ∧ (g.1 = a ∨ n - g.1 = b) ∧ (g.2 = m ∨ n - g.2 = m)) [0, 1, 2, 3, 4, 18, 19, 20, 21] 1 ?_ ?_
 ·refine EvC.a ?_
  by_cases hc : mid < m
  ·refine EvC.ct ?_ (by simp only [go_sem, decide_eq_true (show dZ < (m : Int) by omega)] <;> rfl)
   refine EvC.a ?_ (hok := by exact inI64_of (by omega) (by omega))
   refine EvC.b ?_
   exact ⟨rfl, [(0, 0)], (n - b, mid), rfl, (by rw [show ((n - b : Nat) : Int) = nZ - (b : Int) by omega]; simp only; rw [← hdZ]; simp only [go_sem, sM_fcs, fcs_norefs] <;> rfl), by simp only; omega⟩
  ·refine EvC.cf ?_ (by simp only [go_sem, decide_eq_false (show ¬ dZ < (m : Int) by omega)] <;> rfl)
   refine EvC.a ?_
   refine EvC.b ?_
   exact ⟨rfl, [(0, 0)], (a, m), rfl, (by simp only [go_sem, sM_fcs, fcs_norefs] <;> rfl), Nat.le_refl _, show a ≤ m by omega, Nat.le_refl _, show m ≤ n - m by omega, show n - a ≤ b by omega, .inl rfl, .inl rfl⟩
 rintro ⟨s0, r0⟩ ⟨g1, g2, g3, g4, g5, g6, g7⟩
 simp only at g1 g2 g3 g4 g5 g6 g7 ⊢
 obtain ⟨pZ, hpZ⟩ : ∃ z : Int, z = nZ - 1 := ⟨_, rfl⟩
 have hI5 : inI64 (nZ - 1) = true := inI64_of (by omega) (by omega)
 refine EvC.a ?_ (by simp only [go_sem, ← hpZ] <;> rfl) (by rw [hpZ]; simp [hI5])
 have cL0 : CutL A B (s0 - a) (n - s0 - m) := by
  intro x hx y hy
  rcases g6 with h | h
  ·rw [h, Nat.sub_self] at hx; simp at hx
  ·rw [h, List.drop_of_length_le (by omega)] at hy; cases hy
 have cR0 : CutR A B (r0 - a) (n - r0 - m) := by
  intro x hx y hy
  rcases g7 with h | h
  ·rw [h, List.drop_of_length_le (by omega)] at hx; cases hx
  ·rw [h, Nat.sub_self] at hy; simp at hy
 refine EvC.mergeS (α := Nat) (fun s => ⟨[(0, .tv 0 N 0 N (.val N)), (1, .sc (.int .i64 a)), (2, .sc (.int .i64 m)), (3, .sc (.int .i64 b)), (4, .fn 44 []), (18, .sc (.int .i64 dZ)), (19, .sc (.int .i64 nZ)), (20, .sc (.int .i64 s))], [], sM (p ++ A ++ B ++ r), 1⟩)
  (fun s => s0 ≤ s ∧ s ≤ r0 ∧ CutL A B (s - a) (n - s - m) ∧ CutR A B (s - a) (n - s - m)) [0, 1, 2, 3, 4, 18, 19, 20] 1 ?_ ?_
 ·refine EvC.block ?_
  refine EvC.loopS (σ := Nat × Nat) (fun g => ⟨[(0, .tv 0 N 0 N (.val N)), (1, .sc (.int .i64 a)), (2, .sc (.int .i64 m)), (3, .sc (.int .i64 b)), (4, .fn 44 []), (18, .sc (.int .i64 dZ)), (19, .sc (.int .i64 nZ)), (20, .sc (.int .i64 g.1)), (21, .sc (.int .i64 g.2)), (22, .sc (.int .i64 pZ))], [], sM (p ++ A ++ B ++ r), 1⟩) (fun g => g.2 - g.1)
   (fun g => s0 ≤ g.1 ∧ g.1 ≤ g.2 ∧ g.2 ≤ r0 ∧ CutL A B (g.1 - a) (n - g.1 - m) ∧ CutR A B (g.2 - a) (n - g.2 - m)) [0, 1, 2, 3, 4, 18, 19, 20, 21, 22] 1 ?_ ?_
  ·exact ⟨[(0, 0)], (s0, r0), rfl, (by simp only [go_sem, sM_fcs, fcs_norefs] <;> rfl), Nat.le_refl _, g2, Nat.le_refl _, cL0, cR0⟩
  rintro ⟨i, j⟩ ⟨i1, i2, i3, i4, i5⟩
  simp only at i1 i2 i3 i4 i5 ⊢
  obtain ⟨iZ, hiZ⟩ : ∃ z : Int, z = (i : Int) := ⟨_, rfl⟩
  obtain ⟨jZ, hjZ⟩ : ∃ z : Int, z = (j : Int) := ⟨_, rfl⟩
  rw [← hiZ, ← hjZ]
  refine EvC.seq ?_
  refine EvC.a ?_
  by_cases hij : i < j
  rotate_left
  ·refine EvC.cf ?_ (by simp only [go_sem, decide_eq_false (show ¬ iZ < jZ by omega)] <;> rfl)
   refine EvC.exit ?_
   obtain rfl : i = j := by omega
   exact ⟨rfl, [(0, 0)], i, rfl, (by rw [← hiZ]; simp only [go_sem, sM_fcs, fcs_norefs] <;> rfl), i1, i3, i4, i5⟩
  refine EvC.cr ?_ (by simp only [go_sem, decide_eq_true (show iZ < jZ by omega)] <;> rfl)
  refine EvC.block ?_
  have hJ2 : inI64 (iZ + jZ) = true := inI64_of (by omega) (by omega)
  obtain ⟨c, hh⟩ : ∃ h, h = (i + j) / 2 := ⟨_, rfl⟩
  obtain ⟨cZ, hcZ⟩ : ∃ z : Int, z = (c : Int) := ⟨_, rfl⟩
  have hhalf2 : shiftOf .shr .u64 (IntKind.wrap .u64 (iZ + jZ)) 1 = cZ := by rw [half_u (by omega) (by omega)]; omega
  have hJ3 : inI64 cZ = true := inI64_of (by omega) (by omega)
  refine EvC.a ?_ (by simp only [go_sem, hhalf2] <;> rfl) (by simp [hJ2, hJ3])
  have hJ4 : inI64 (pZ - cZ) = true := inI64_of (by omega) (by omega)
  have hca : c - a < A.length := by omega
  have hcb : n - 1 - c - m < B.length := by omega
  have hx0 : ((p ++ A ++ B ++ r).map FA.cells)[cZ.toNat]? = some (A[c - a]).cells := by
   rw [List.getElem?_map, show p ++ A ++ B ++ r = p ++ (A ++ (B ++ r)) by simp, List.getElem?_append_right (by omega), List.getElem?_append_left (by omega), show cZ.toNat - p.length = c - a by omega, List.getElem?_eq_getElem hca]; rfl
  have hy0 : ((p ++ A ++ B ++ r).map FA.cells)[(pZ - cZ).toNat]? = some (B[n - 1 - c - m]).cells := by
   rw [List.getElem?_map, show p ++ A ++ B ++ r = (p ++ A) ++ (B ++ r) by simp, List.getElem?_append_right (by simp; omega), List.getElem?_append_left (by simp; omega), show (pZ - cZ).toNat - (p ++ A).length = n - 1 - c - m by simp; omega, List.getElem?_eq_getElem hcb]; rfl
  have hLn : ((p ++ A ++ B ++ r).map FA.cells).length = N := by rw [List.length_map, ← hN]
  have hSn := fas_norefs2 (p ++ A ++ B ++ r)
  obtain ⟨Z, hZe⟩ : ∃ Z, Z = (p ++ A ++ B ++ r).map FA.cells := ⟨_, rfl⟩
  have hcl := cut_left hA hB hca hcb
  have hcr := cut_right hA hB hca hcb
  generalize A[c - a] = x at hx0 hcl hcr
  generalize B[n - 1 - c - m] = y at hy0 hcl hcr
  rw [← hZe] at hx0 hy0 hLn hSn
  rw [FA.cells] at hx0 hy0
  have q := edge_is y x
  have hlt := edgeI_lt y x
  rw [FA.cells, FA.cells] at q
  generalize edgeI y x = eZ at q hlt
  have hbd : 0 ≤ cZ ∧ cZ.toNat < N ∧ 0 ≤ pZ - cZ ∧ (pZ - cZ).toNat < N := by omega
  rw [sM, ← hZe]
  refine EvC.k1D mixed ?_ (h1 := by simp only [go_sem, hx0, hy0, hLn] <;> rfl) (k1 := by simp [hJ4]; omega) (c1 := .ca q) (h2 := by simp only [go_sem, hlt] <;> rfl)
  cases hc : ltE y x with
  | false =>
    rw [hc] at hlt
    refine EvC.ct ?_ (by simp only [go_sem, hlt] <;> rfl)
    refine EvC.b ?_ (hok := by exact inI64_of (by omega) (by omega))
    have hxy : leE x y = true := by rw [leE, hc]; rfl
    have hk := hcl hxy
    rw [show c - a + 1 = c + 1 - a by omega, show n - 1 - c - m = n - (c + 1) - m by omega] at hk
    exact ⟨[(0, 0)], (c + 1, j), rfl, (by rw [show ((c + 1 : Nat) : Int) = cZ + 1 by omega, ← hjZ]; simp only [go_sem, hSn] <;> rfl), ⟨by omega, by simp only; omega, i3, hk, i5⟩, by simp only; omega⟩
  | true =>
    rw [hc] at hlt
    refine EvC.cf ?_ (by simp only [go_sem, hlt] <;> rfl)
    refine EvC.b ?_
    have hk := hcr hc
    rw [show n - 1 - c - m + 1 = n - c - m by omega] at hk
    exact ⟨[(0, 0)], (i, c), rfl, (by rw [← hiZ, ← hcZ]; simp only [go_sem, hSn] <;> rfl), ⟨i1, by simp only; omega, by simp only; omega, i4, hk⟩, by simp only; omega⟩
 intro s ⟨k1, k2, k3, k4⟩
 obtain ⟨A1, hA1e⟩ : ∃ X, X = A.take (s - a) := ⟨_, rfl⟩
 obtain ⟨A2, hA2e⟩ : ∃ X, X = A.drop (s - a) := ⟨_, rfl⟩
 obtain ⟨B1, hB1e⟩ : ∃ X, X = B.take (n - s - m) := ⟨_, rfl⟩
 obtain ⟨B2, hB2e⟩ : ∃ X, X = B.drop (n - s - m) := ⟨_, rfl⟩
 have hAe : A = A1 ++ A2 := by rw [hA1e, hA2e, List.take_append_drop]
 have hBe : B = B1 ++ B2 := by rw [hB1e, hB2e, List.take_append_drop]
 have la1 : A1.length = s - a := by rw [hA1e, List.length_take]; omega
 have lb1 : B1.length = n - s - m := by rw [hB1e, List.length_take]; omega
 have la2 : A2.length = m - s := by rw [hA2e, List.length_drop]; omega
 have lb2 : B2.length = b - (n - s) := by rw [hB2e, List.length_drop]; omega
 have s1 : SrtE A1 := by rw [hA1e]; exact srt_take hA _
 have s2 : SrtE A2 := by rw [hA2e]; exact srt_drop hA _
 have s3 : SrtE B1 := by rw [hB1e]; exact srt_take hB _
 have s4 : SrtE B2 := by rw [hB2e]; exact srt_drop hB _
 have hsp : srtE (A ++ B) = srtE (A1 ++ B1) ++ srtE (A2 ++ B2) := by
  rw [hAe, hBe]
  refine srtE_split ?_ ?_ ?_ ?_
  ·rw [hA1e, hA2e]; exact srt_cut hA _
  ·rw [hB1e, hB2e]; exact srt_cut hB _
  ·rw [hA1e, hB2e]; exact k3
  ·intro x hx y hy
   rw [hB1e] at hx
   rw [hA2e] at hy
   exact k4 y hy x hx
 rw [hsp]
 have hM0 : p ++ A ++ B ++ r = p ++ A1 ++ A2 ++ B1 ++ (B2 ++ r) := by rw [hAe, hBe]; simp
 have hABl : (A1 ++ B1).length = mid - a := by rw [List.length_append]; omega
 have hAB2 : (A2 ++ B2).length = b - mid := by rw [List.length_append]; omega
 have lS1 : (srtE (A1 ++ B1)).length = mid - a := by rw [srtE_len, hABl]
 obtain ⟨sZ, hsZ⟩ : ∃ z : Int, z = (s : Int) := ⟨_, rfl⟩
 obtain ⟨e, he⟩ : ∃ e, e = n - s := ⟨_, rfl⟩
 obtain ⟨eZ, heZ⟩ : ∃ z : Int, z = (e : Int) := ⟨_, rfl⟩
 have hes : nZ - sZ = eZ := by omega
 have hI6 : inI64 eZ = true := inI64_of (by omega) (by omega)
 rw [hM0, ← hsZ]
 clear cL0 cR0 k3 k4 hA1e hA2e hB1e hB2e
 refine EvC.a ?_ (by simp only [go_sem, hes] <;> rfl) (by simp [hI6])
 refine EvC.mergeS (α := Unit) (fun _ => ⟨[(0, .tv 0 N 0 N (.val N)), (1, .sc (.int .i64 a)), (3, .sc (.int .i64 b)), (4, .fn 44 []), (18, .sc (.int .i64 dZ)), (20, .sc (.int .i64 sZ)), (24, .sc (.int .i64 eZ))], [], sM (p ++ (A1 ++ B1) ++ (A2 ++ B2) ++ r), 1⟩) (fun _ => True) [0, 1, 3, 4, 18, 20, 24] 1 ?_ ?_
 ·by_cases c1 : s < m
  rotate_left
  ·have hA20 : A2 = [] := List.eq_nil_of_length_eq_zero (by omega)
   refine EvC.g ?_ (h := by simp only [go_sem, decide_eq_false (show ¬ sZ < (m : Int) by omega)] <;> rfl)
   refine EvC.cs ?_
   exact ⟨rfl, [(0, 0)], (), rfl, (by rw [show p ++ (A1 ++ B1) ++ (A2 ++ B2) ++ r = p ++ A1 ++ A2 ++ B1 ++ (B2 ++ r) by rw [hA20]; simp]; simp only [go_sem, sM_fcs, fcs_norefs] <;> rfl), trivial⟩
  have d1 : decide (sZ < (m : Int)) = true := decide_eq_true (by omega)
  by_cases c2 : m < e
  rotate_left
  ·have hB10 : B1 = [] := List.eq_nil_of_length_eq_zero (by omega)
   refine EvC.g ?_ (h := by simp only [go_sem, d1, decide_eq_false (show ¬ (m : Int) < eZ by omega)] <;> rfl)
   refine EvC.cs ?_
   exact ⟨rfl, [(0, 0)], (), rfl, (by rw [show p ++ (A1 ++ B1) ++ (A2 ++ B2) ++ r = p ++ A1 ++ A2 ++ B1 ++ (B2 ++ r) by rw [hB10]; simp]; simp only [go_sem, sM_fcs, fcs_norefs] <;> rfl), trivial⟩
  refine EvC.g ?_ (h := by simp only [go_sem, d1, decide_eq_true (show (m : Int) < eZ by omega)] <;> rfl)
  refine EvC.ct ?_
  apply EvC.region
  apply XR.run
  ·simp only [go_sem] <;> rfl
  ·simp
  refine XR.gcTo ⟨[(0, .tv 0 N 0 N (.val N)), (1, .sc (.int .i64 a)), (3, .sc (.int .i64 b)), (4, .fn 44 []), (18, .sc (.int .i64 dZ)), (20, .sc (.int .i64 sZ)), (24, .sc (.int .i64 eZ)), (186, .tv 0 N 0 N (.val N)), (187, .sc (.int .i64 s)), (188, .sc (.int .i64 m)), (189, .sc (.int .i64 e)), (190, .fn 44 [])], [], sM (p ++ A1 ++ A2 ++ B1 ++ (B2 ++ r)), 1⟩ [0, 1, 3, 4, 18, 20, 24, 186, 187, 188, 189, 190] [(0, 0)] rfl (by rw [← hsZ, ← heZ]; simp only [go_sem, sM_fcs, fcs_norefs] <;> rfl) ?_
  apply XR.callI rfl rfl (by simp only [go_sem] <;> rfl) (by simp only [go_sem] <;> rfl) (by simp only [go_sem] <;> rfl)
  have hs := rotate_body (p ++ A1) A2 B1 (B2 ++ r) s m e N (by simp; omega) (by omega) (by omega) (fun h => by rw [h] at la2; simp at la2; omega) (fun h => by rw [h] at lb1; simp at lb1; omega) (by simp; omega) hl
  refine hs.mono fun _ M z h => ?_
  subst h
  refine XR.nil ?_
  exact ⟨rfl, [(0, 0)], (), rfl, (by rw [show p ++ (A1 ++ B1) ++ (A2 ++ B2) ++ r = p ++ A1 ++ B1 ++ A2 ++ (B2 ++ r) by simp]; simp only [go_sem, sM_fcs, fcs_norefs] <;> rfl), trivial⟩
 rintro ⟨⟩ -
 refine EvC.mergeS (α := Unit) (fun _ => ⟨[(0, .tv 0 N 0 N (.val N)), (3, .sc (.int .i64 b)), (4, .fn 44 []), (18, .sc (.int .i64 dZ)), (24, .sc (.int .i64 eZ))], [], sM (p ++ srtE (A1 ++ B1) ++ (A2 ++ B2) ++ r), 1⟩) (fun _ => True) [0, 3, 4, 18, 24] 1 ?_ ?_
 ·by_cases c1 : a < s
  rotate_left
  ·have hA10 : A1 = [] := List.eq_nil_of_length_eq_zero (by omega)
   have hid : srtE (A1 ++ B1) = A1 ++ B1 := by rw [hA10, List.nil_append]; exact srtE_id s3
   refine EvC.g ?_ (h := by simp only [go_sem, decide_eq_false (show ¬ (a : Int) < sZ by omega)] <;> rfl)
   refine EvC.cs ?_
   exact ⟨rfl, [(0, 0)], (), rfl, (by rw [hid]; simp only [go_sem, sM_fcs, fcs_norefs] <;> rfl), trivial⟩
  have d1 : decide ((a : Int) < sZ) = true := decide_eq_true (by omega)
  by_cases c2 : s < mid
  rotate_left
  ·have hB10 : B1 = [] := List.eq_nil_of_length_eq_zero (by omega)
   have hid : srtE (A1 ++ B1) = A1 ++ B1 := by rw [hB10, List.append_nil]; exact srtE_id s1
   refine EvC.g ?_ (h := by simp only [go_sem, d1, decide_eq_false (show ¬ sZ < dZ by omega)] <;> rfl)
   refine EvC.cs ?_
   exact ⟨rfl, [(0, 0)], (), rfl, (by rw [hid]; simp only [go_sem, sM_fcs, fcs_norefs] <;> rfl), trivial⟩
  refine EvC.g ?_ (h := by simp only [go_sem, d1, decide_eq_true (show sZ < dZ by omega)] <;> rfl)
  refine EvC.ct ?_
  apply EvC.region
  apply XR.run
  ·simp only [go_sem] <;> rfl
  ·simp
  refine XR.gcTo ⟨[(0, .tv 0 N 0 N (.val N)), (3, .sc (.int .i64 b)), (4, .fn 44 []), (18, .sc (.int .i64 dZ)), (24, .sc (.int .i64 eZ)), (200, .tv 0 N 0 N (.val N)), (201, .sc (.int .i64 a)), (202, .sc (.int .i64 s)), (203, .sc (.int .i64 mid)), (204, .fn 44 [])], [], sM (p ++ (A1 ++ B1) ++ (A2 ++ B2) ++ r), 1⟩ [0, 3, 4, 18, 24, 200, 201, 202, 203, 204] [(0, 0)] rfl (by rw [← hsZ, ← hdZ]; simp only [go_sem, sM_fcs, fcs_norefs] <;> rfl) ?_
  apply XR.callI rfl rfl (by simp only [go_sem] <;> rfl) (by simp only [go_sem] <;> rfl) (by simp only [go_sem] <;> rfl)
  have hs := ih p A1 B1 ((A2 ++ B2) ++ r) a s mid N ha (by omega) (by omega) (fun h => by rw [h] at la1; simp at la1; omega) (fun h => by rw [h] at lb1; simp at lb1; omega) s1 s3 (by simp; omega) hl (by omega)
  rw [show p ++ A1 ++ B1 ++ (A2 ++ B2 ++ r) = p ++ (A1 ++ B1) ++ (A2 ++ B2) ++ r by simp] at hs
  refine hs.mono fun _ M z h => ?_
  subst h
  refine XR.nil ?_
  exact ⟨rfl, [(0, 0)], (), rfl, (by rw [show p ++ srtE (A1 ++ B1) ++ (A2 ++ B2) ++ r = p ++ srtE (A1 ++ B1) ++ (A2 ++ B2 ++ r) by simp]; simp only [go_sem, sM_fcs, fcs_norefs] <;> rfl), trivial⟩
 rintro ⟨⟩ -
 have hend : p ++ (srtE (A1 ++ B1) ++ srtE (A2 ++ B2)) ++ r = (p ++ srtE (A1 ++ B1)) ++ srtE (A2 ++ B2) ++ r := by simp
 by_cases c1 : mid < e
 rotate_left
 ·have hA20 : A2 = [] := List.eq_nil_of_length_eq_zero (by omega)
  have hid : srtE (A2 ++ B2) = A2 ++ B2 := by rw [hA20, List.nil_append]; exact srtE_id s4
  refine EvC.g ?_ (h := by simp only [go_sem, decide_eq_false (show ¬ dZ < eZ by omega)] <;> rfl)
  refine EvC.cs ?_
  refine ⟨.inr rfl, _, rfl, ?_⟩
  rw [hend, hid]; rfl
 have d1 : decide (dZ < eZ) = true := decide_eq_true (by omega)
 by_cases c2 : e < b
 rotate_left
 ·have hB20 : B2 = [] := List.eq_nil_of_length_eq_zero (by omega)
  have hid : srtE (A2 ++ B2) = A2 ++ B2 := by rw [hB20, List.append_nil]; exact srtE_id s2
  refine EvC.g ?_ (h := by simp only [go_sem, d1, decide_eq_false (show ¬ eZ < (b : Int) by omega)] <;> rfl)
  refine EvC.cs ?_
  refine ⟨.inr rfl, _, rfl, ?_⟩
  rw [hend, hid]; rfl
 refine EvC.g ?_ (h := by simp only [go_sem, d1, decide_eq_true (show eZ < (b : Int) by omega)] <;> rfl)
 refine EvC.ct ?_
 apply EvC.region
 apply XR.run
 ·simp only [go_sem] <;> rfl
 ·simp
 refine XR.gcTo ⟨[(214, .tv 0 N 0 N (.val N)), (215, .sc (.int .i64 mid)), (216, .sc (.int .i64 e)), (217, .sc (.int .i64 b)), (218, .fn 44 [])], [], sM (p ++ srtE (A1 ++ B1) ++ (A2 ++ B2) ++ r), 1⟩ [214, 215, 216, 217, 218] [(0, 0)] rfl (by rw [← heZ, ← hdZ]; simp only [go_sem, sM_fcs, fcs_norefs] <;> rfl) ?_
 apply XR.callI rfl rfl (by simp only [go_sem] <;> rfl) (by simp only [go_sem] <;> rfl) (by simp only [go_sem] <;> rfl)
 have hs := ih (p ++ srtE (A1 ++ B1)) A2 B2 r mid e b N (by simp [lS1]; omega) (by omega) (by omega) (fun h => by rw [h] at la2; simp at la2; omega) (fun h => by rw [h] at lb2; simp at lb2; omega) s2 s4 (by simp [lS1]; omega) hl (by omega)
 rw [show p ++ srtE (A1 ++ B1) ++ A2 ++ B2 ++ r = p ++ srtE (A1 ++ B1) ++ (A2 ++ B2) ++ r by simp] at hs
 refine hs.mono fun _ M z h => ?_
 subst h
 refine XR.nil ?_
 refine ⟨.inr rfl, _, rfl, ?_⟩
 rw [hend]; rfl
theorem merge_ok : ∀ K, MergeOk K
 | 0 => fun p A B r a m b N _ _ _ hA0 _ _ _ _ _ hK => by
   have := List.length_pos_iff.2 hA0; omega
 | K + 1 => fun p A B r a m b N ha hm hb hA0 hB0 hA hB hN hl hK => by
   have h1 := List.length_pos_iff.2 hA0
   have h2 := List.length_pos_iff.2 hB0
   by_cases c1 : A.length = 1
   ·obtain ⟨x, rfl⟩ : ∃ x, A = [x] := by
      match A, c1 with
      | [x], _ => exact ⟨x, rfl⟩
    exact merge1_body p B r x a m b N ha hm hb hB hN hl
   by_cases c2 : B.length = 1
   ·obtain ⟨y, rfl⟩ : ∃ x, B = [x] := by
      match B, c2 with
      | [x], _ => exact ⟨x, rfl⟩
    exact merge2_body p A r y a m b N ha hm hb hA c1 hN hl
   exact merge3_body p A B r a m b N ha hm hb hA hB (by omega) (by omega) hN hl fun p' A' B' r' a' m' b' N' e1 e2 e3 e4 e5 e6 e7 e8 e9 e10 => merge_ok K p' A' B' r' a' m' b' N' e1 e2 e3 e4 e5 e6 e7 e8 e9 (by omega)
def bk (s : Nat) : Nat → List FA → List FA
 | 0, l => srtE l
 | k + 1, l => srtE (l.take s) ++ bk s k (l.drop s)
def bkL (s : Nat) (l : List FA) : List FA := bk s (l.length / s) l
theorem bkL_step {s : Nat} {l : List FA} (hs : 0 < s) (h : s ≤ l.length) : bkL s l = srtE (l.take s) ++ bkL s (l.drop s) := by
 have h1 : l.length / s = (l.length - s) / s + 1 := by
  conv => lhs; rw [show l.length = l.length - s + s by omega]
  exact Nat.add_div_right _ hs
 unfold bkL
 rw [h1, bk, List.length_drop]
theorem bkL_last {s : Nat} {l : List FA} (h : l.length < s) : bkL s l = srtE l := by
 unfold bkL
 rw [Nat.div_eq_of_lt h, bk]
theorem bkL_all {s : Nat} {l : List FA} (hs : 0 < s) (h : l.length ≤ s) : bkL s l = srtE l := by
 by_cases e : l.length = s
 ·rw [bkL_step hs (by omega), List.take_of_length_le (by omega), List.drop_of_length_le (by omega), bkL_last (by simpa using hs)]
  exact List.append_nil _
 ·exact bkL_last (by omega)
theorem bkL_len {s : Nat} (hs : 0 < s) : ∀ (K : Nat) (l : List FA), l.length ≤ K → (bkL s l).length = l.length
 | 0, l, h => by rw [bkL_last (by omega), srtE_len]
 | K + 1, l, h => by
   by_cases e : s ≤ l.length
   ·rw [bkL_step hs e, List.length_append, srtE_len, bkL_len hs K _ (by rw [List.length_drop]; omega), List.length_take, List.length_drop]; omega
   ·rw [bkL_last (by omega), srtE_len]
set_option maxHeartbeats 8000000 in
theorem stable_body (L : List FA) (N : Nat) (hN : N = L.length) (hl : N < 1000000) :
  BodyIs prog 73 [.tv 0 N 0 N (.val N), .sc (.int .i64 N), .fn 44 []] (sM L) 1 (fun _ M _ => M = sM (srtE L)) := by
 refine BodyIs.of (nv := 3) (hid := [6, 7, 8, 9, 13, 30, 35, 54, 14, 15, 16, 17, 23, 24, 25, 26, 36, 37, 40, 41, 42, 55, 56, 57, 58, 59]) func73 rfl (by kernel_rfl) (by simp [ntmps73]) fun _ => ?_
 rw [ntmps73, results73]
 refine EvC.a ?_
 refine EvC.a ?_
 refine EvC.seq ?_
 refine EvC.block ?_
 refine EvC.loopS (σ := List FA × List FA) (fun g => ⟨[(0, .tv 0 N 0 N (.val N)), (1, .sc (.int .i64 N)), (2, .fn 44 []), (6, .sc (.int .i64 20)), (7, .sc (.int .i64 g.1.length)), (8, .sc (.int .i64 ((g.1.length + 20 : Nat) : Int)))], [], sM (g.1 ++ g.2), 1⟩) (fun g => g.2.length) (fun g => g.1 ++ bkL 20 g.2 = bkL 20 L ∧ g.1.length + g.2.length = N) [0, 1, 2, 6, 7, 8] 1 ?_ ?_
 ·exact ⟨[(0, 0)], ([], L), rfl, (by rw [show [] ++ L = L from rfl]; simp only [go_sem, sM_fcs, fcs_norefs, List.length_nil, Int.natCast_zero, Nat.zero_add] <;> rfl), rfl, by simp [hN]⟩
 rintro ⟨P, l⟩ ⟨i1, i2⟩
 simp only at i1 i2 ⊢
 obtain ⟨aZ, haZ⟩ : ∃ z : Int, z = (P.length : Int) := ⟨_, rfl⟩
 obtain ⟨bZ, hbZ⟩ : ∃ z : Int, z = ((P.length + 20 : Nat) : Int) := ⟨_, rfl⟩
 rw [← haZ, ← hbZ]
 refine EvC.seq ?_
 refine EvC.a ?_
 by_cases c1 : 20 ≤ l.length
 ·refine EvC.cr ?_ (by simp only [go_sem, decide_eq_true (show bZ ≤ (N : Int) by omega)] <;> rfl)
  refine EvC.block ?_
  apply EvC.seq
  apply EvC.region
  apply XR.run
  ·simp only [go_sem] <;> rfl
  ·simp
  refine XR.gcTo ⟨[(0, .tv 0 N 0 N (.val N)), (1, .sc (.int .i64 N)), (2, .fn 44 []), (6, .sc (.int .i64 20)), (7, .sc (.int .i64 aZ)), (8, .sc (.int .i64 bZ)), (14, .tv 0 N 0 N (.val N)), (15, .sc (.int .i64 P.length)), (16, .sc (.int .i64 ((P.length + 20 : Nat) : Int))), (17, .fn 44 [])], [], sM (P ++ l), 1⟩ [0, 1, 2, 6, 7, 8, 14, 15, 16, 17] [(0, 0)] rfl (by rw [← haZ, ← hbZ]; simp only [go_sem, sM_fcs, fcs_norefs] <;> rfl) ?_
  apply XR.callI rfl rfl (by simp only [go_sem] <;> rfl) (by simp only [go_sem] <;> rfl) (by simp only [go_sem] <;> rfl)
  have hs := insert_body P (l.take 20) (l.drop 20) P.length (P.length + 20) N rfl (by rw [List.length_take]; omega) (by simp; omega) hl
  rw [show P ++ l.take 20 ++ l.drop 20 = P ++ l by rw [List.append_assoc, List.take_append_drop]] at hs
  refine hs.mono fun _ M z h => ?_
  subst h
  refine XR.nil ?_
  refine EvC.a ?_
  refine EvC.b ?_ (hok := by exact inI64_of (by omega) (by omega))
  have hPl : (P ++ srtE (l.take 20)).length = P.length + 20 := by rw [List.length_append, srtE_len, List.length_take]; omega
  refine ⟨[(0, 0)], (P ++ srtE (l.take 20), l.drop 20), rfl, ?_, ⟨by rw [← i1, bkL_step (by decide) c1]; simp, by simp only [hPl, List.length_drop]; omega⟩, by simp only [List.length_drop]; omega⟩
  simp only [hPl]
  rw [show ((P.length + 20 + 20 : Nat) : Int) = bZ + 20 by omega, show ((P.length + 20 : Nat) : Int) = bZ by omega]
  simp only [go_sem, sM_fcs, fcs_norefs] <;> rfl
 refine EvC.cf ?_ (by simp only [go_sem, decide_eq_false (show ¬ bZ ≤ (N : Int) by omega)] <;> rfl)
 refine EvC.exit ?_
 rw [bkL_last (by omega)] at i1
 apply EvC.seq
 apply EvC.region
 apply XR.run
 ·simp only [go_sem] <;> rfl
 ·simp
 refine XR.gcTo ⟨[(0, .tv 0 N 0 N (.val N)), (1, .sc (.int .i64 N)), (2, .fn 44 []), (6, .sc (.int .i64 20)), (23, .tv 0 N 0 N (.val N)), (24, .sc (.int .i64 P.length)), (25, .sc (.int .i64 N)), (26, .fn 44 [])], [], sM (P ++ l), 1⟩ [0, 1, 2, 6, 23, 24, 25, 26] [(0, 0)] rfl (by rw [← haZ]; simp only [go_sem, sM_fcs, fcs_norefs] <;> rfl) ?_
 apply XR.callI rfl rfl (by simp only [go_sem] <;> rfl) (by simp only [go_sem] <;> rfl) (by simp only [go_sem] <;> rfl)
 have hs := insert_body P l [] P.length N N rfl (by omega) (by simp; omega) hl
 rw [List.append_nil, List.append_nil, i1] at hs
 refine hs.mono fun _ M z h => ?_
 subst h
 refine XR.nil ?_
 clear i1 i2 hs haZ hbZ c1
 refine EvC.block ?_
 refine EvC.loopS (σ := Nat) (fun s => ⟨[(0, .tv 0 N 0 N (.val N)), (1, .sc (.int .i64 N)), (2, .fn 44 []), (6, .sc (.int .i64 s))], [], sM (bkL s L), 1⟩) (fun s => N - s) (fun s => 20 ≤ s) [0, 1, 2, 6] 1 ?_ ?_
 ·exact ⟨[(0, 0)], 20, rfl, (by simp only [go_sem, sM_fcs, fcs_norefs, show ((20 : Nat) : Int) = 20 from rfl] <;> rfl), Nat.le_refl _⟩
 intro s hs20
 refine EvC.seq ?_
 refine EvC.a ?_
 by_cases c2 : s < N
 rotate_left
 ·refine EvC.cf ?_ (by simp only [go_sem, decide_eq_false (show ¬ (s : Int) < N by omega)] <;> rfl)
  refine EvC.exit ?_
  refine ⟨.inr rfl, _, rfl, ?_⟩
  rw [← bkL_all (s := s) (l := L) (by omega) (by omega)]; rfl
 refine EvC.cr ?_ (by simp only [go_sem, decide_eq_true (show (s : Int) < N by omega)] <;> rfl)
 refine EvC.block ?_
 obtain ⟨sZ, hsZ⟩ : ∃ z : Int, z = (s : Int) := ⟨_, rfl⟩
 rw [← hsZ]
 have hI1 : inI64 (2 * sZ) = true := inI64_of (by omega) (by omega)
 refine EvC.a ?_ (hok := by simp [hI1])
 refine EvC.seq ?_
 refine EvC.block ?_
 refine EvC.loopS (σ := List FA × List FA) (fun g => ⟨[(0, .tv 0 N 0 N (.val N)), (1, .sc (.int .i64 N)), (2, .fn 44 []), (6, .sc (.int .i64 sZ)), (7, .sc (.int .i64 g.1.length)), (8, .sc (.int .i64 ((g.1.length + 2 * s : Nat) : Int)))], [], sM (g.1 ++ bkL s g.2), 1⟩) (fun g => g.2.length) (fun g => g.1 ++ bkL (2 * s) g.2 = bkL (2 * s) L ∧ g.1.length + g.2.length = N) [0, 1, 2, 6, 7, 8] 1 ?_ ?_
 ·exact ⟨[(0, 0)], ([], L), rfl, (by rw [show [] ++ bkL s L = bkL s L from rfl, show ((([] : List FA).length + 2 * s : Nat) : Int) = 2 * sZ by simp; omega]; simp only [go_sem, sM_fcs, fcs_norefs, List.length_nil, Int.natCast_zero] <;> rfl), rfl, by simp [hN]⟩
 rintro ⟨P, l⟩ ⟨i1, i2⟩
 simp only at i1 i2 ⊢
 obtain ⟨aZ, haZ⟩ : ∃ z : Int, z = (P.length : Int) := ⟨_, rfl⟩
 obtain ⟨bZ, hbZ⟩ : ∃ z : Int, z = ((P.length + 2 * s : Nat) : Int) := ⟨_, rfl⟩
 rw [← haZ, ← hbZ]
 refine EvC.seq ?_
 refine EvC.a ?_
 have hI2 : inI64 (aZ + sZ) = true := inI64_of (by omega) (by omega)
 by_cases c3 : 2 * s ≤ l.length
 ·refine EvC.cr ?_ (by simp only [go_sem, decide_eq_true (show bZ ≤ (N : Int) by omega)] <;> rfl)
  refine EvC.block ?_
  apply EvC.seq
  apply EvC.region
  apply XR.run
  ·simp only [go_sem] <;> rfl
  ·simp [hI2]
  refine XR.gcTo ⟨[(0, .tv 0 N 0 N (.val N)), (1, .sc (.int .i64 N)), (2, .fn 44 []), (6, .sc (.int .i64 sZ)), (7, .sc (.int .i64 aZ)), (8, .sc (.int .i64 bZ)), (36, .tv 0 N 0 N (.val N)), (37, .sc (.int .i64 P.length)), (40, .sc (.int .i64 ((P.length + s : Nat) : Int))), (41, .sc (.int .i64 ((P.length + 2 * s : Nat) : Int))), (42, .fn 44 [])], [], sM (P ++ bkL s l), 1⟩ [0, 1, 2, 6, 7, 8, 36, 37, 40, 41, 42] [(0, 0)] rfl (by rw [show ((P.length + s : Nat) : Int) = aZ + sZ by omega, ← haZ, ← hbZ]; simp only [go_sem, sM_fcs, fcs_norefs] <;> rfl) ?_
  apply XR.callI rfl rfl (by simp only [go_sem] <;> rfl) (by simp only [go_sem] <;> rfl) (by simp only [go_sem] <;> rfl)
  have e1 : bkL s l = srtE (l.take s) ++ (srtE ((l.drop s).take s) ++ bkL s ((l.drop s).drop s)) := by
   rw [bkL_step (by omega) (by omega), bkL_step (l := l.drop s) (by omega) (by rw [List.length_drop]; omega)]
  have e2 : srtE (srtE (l.take s) ++ srtE ((l.drop s).take s)) = srtE (l.take (2 * s)) := by
   rw [srtE_srtE_app, show 2 * s = s + s by omega, List.take_add]
  have hA : (srtE (l.take s)).length = s := by rw [srtE_len, List.length_take]; omega
  have hB : (srtE ((l.drop s).take s)).length = s := by rw [srtE_len, List.length_take, List.length_drop]; omega
  have hC : (bkL s ((l.drop s).drop s)).length = l.length - 2 * s := by rw [bkL_len (by omega) _ _ (Nat.le_refl _), List.length_drop, List.length_drop]; omega
  have hs := merge_ok (2 * s) P (srtE (l.take s)) (srtE ((l.drop s).take s)) (bkL s ((l.drop s).drop s)) P.length (P.length + s) (P.length + 2 * s) N rfl (by omega) (by omega) (fun h => by rw [h] at hA; simp at hA; omega) (fun h => by rw [h] at hB; simp at hB; omega) (srtE_srt _) (srtE_srt _) (by simp only [List.length_append, hA, hB, hC]; omega) hl (by omega)
  rw [e2, show P ++ srtE (l.take s) ++ srtE ((l.drop s).take s) ++ bkL s ((l.drop s).drop s) = P ++ bkL s l by rw [e1]; simp] at hs
  refine hs.mono fun _ M z h => ?_
  subst h
  refine XR.nil ?_
  refine EvC.a ?_
  refine EvC.b ?_ (hok := by rw [show inI64 (2 * sZ) = true from hI1]; simp; exact inI64_of (by omega) (by omega))
  have hPl : (P ++ srtE (l.take (2 * s))).length = P.length + 2 * s := by rw [List.length_append, srtE_len, List.length_take]; omega
  refine ⟨[(0, 0)], (P ++ srtE (l.take (2 * s)), l.drop (2 * s)), rfl, ?_, ⟨by rw [← i1, bkL_step (s := 2 * s) (by omega) c3]; simp, by simp only [hPl, List.length_drop]; omega⟩, by simp only [List.length_drop]; omega⟩
  simp only [hPl]
  rw [show ((P.length + 2 * s + 2 * s : Nat) : Int) = bZ + 2 * sZ by omega, show ((P.length + 2 * s : Nat) : Int) = bZ by omega, show (l.drop s).drop s = l.drop (2 * s) by rw [List.drop_drop]; congr 1; omega]
  simp only [go_sem, sM_fcs, fcs_norefs] <;> rfl
 refine EvC.cf ?_ (by simp only [go_sem, decide_eq_false (show ¬ bZ ≤ (N : Int) by omega)] <;> rfl)
 refine EvC.exit ?_
 rw [bkL_last (by omega)] at i1
 refine EvC.mergeS (α := Unit) (fun _ => ⟨[(0, .tv 0 N 0 N (.val N)), (1, .sc (.int .i64 N)), (2, .fn 44 []), (6, .sc (.int .i64 sZ))], [], sM (bkL (2 * s) L), 1⟩) (fun _ => True) [0, 1, 2, 6] 1 ?_ ?_
 ·refine EvC.a ?_ (hok := by simp [hI2])
  refine EvC.a ?_
  by_cases c4 : s < l.length
  rotate_left
  ·refine EvC.cs ?_ (by simp only [go_sem, decide_eq_false (show ¬ aZ + sZ < (N : Int) by omega)] <;> rfl)
   rw [bkL_all (by omega) (by omega), i1]
   exact ⟨rfl, [(0, 0)], (), rfl, (by simp only [go_sem, sM_fcs, fcs_norefs] <;> rfl), trivial⟩
  refine EvC.ct ?_ (by simp only [go_sem, decide_eq_true (show aZ + sZ < (N : Int) by omega)] <;> rfl)
  apply EvC.region
  apply XR.run
  ·simp only [go_sem] <;> rfl
  ·simp
  refine XR.gcTo ⟨[(0, .tv 0 N 0 N (.val N)), (1, .sc (.int .i64 N)), (2, .fn 44 []), (6, .sc (.int .i64 sZ)), (55, .tv 0 N 0 N (.val N)), (56, .sc (.int .i64 P.length)), (57, .sc (.int .i64 ((P.length + s : Nat) : Int))), (58, .sc (.int .i64 N)), (59, .fn 44 [])], [], sM (P ++ bkL s l), 1⟩ [0, 1, 2, 6, 55, 56, 57, 58, 59] [(0, 0)] rfl (by rw [show ((P.length + s : Nat) : Int) = aZ + sZ by omega, ← haZ]; simp only [go_sem, sM_fcs, fcs_norefs] <;> rfl) ?_
  apply XR.callI rfl rfl (by simp only [go_sem] <;> rfl) (by simp only [go_sem] <;> rfl) (by simp only [go_sem] <;> rfl)
  have e1 : bkL s l = srtE (l.take s) ++ srtE (l.drop s) := by
   rw [bkL_step (by omega) (by omega), bkL_all (l := l.drop s) (by omega) (by rw [List.length_drop]; omega)]
  have e2 : srtE (srtE (l.take s) ++ srtE (l.drop s)) = srtE l := by rw [srtE_srtE_app, List.take_append_drop]
  have hA : (srtE (l.take s)).length = s := by rw [srtE_len, List.length_take]; omega
  have hB : (srtE (l.drop s)).length = l.length - s := by rw [srtE_len, List.length_drop]
  have hs := merge_ok (2 * s) P (srtE (l.take s)) (srtE (l.drop s)) [] P.length (P.length + s) N N rfl (by omega) (by omega) (fun h => by rw [h] at hA; simp at hA; omega) (fun h => by rw [h] at hB; simp at hB; omega) (srtE_srt _) (srtE_srt _) (by simp only [List.length_append, hA, hB, List.length_nil]; omega) hl (by omega)
  rw [e2, List.append_nil, List.append_nil, i1, List.append_assoc, ← e1] at hs
  refine hs.mono fun _ M z h => ?_
  subst h
  refine XR.nil ?_
  exact ⟨rfl, [(0, 0)], (), rfl, (by simp only [go_sem, sM_fcs, fcs_norefs] <;> rfl), trivial⟩
 rintro ⟨⟩ -
 have hI3 : inI64 (sZ * 2) = true := inI64_of (by omega) (by omega)
 refine EvC.b ?_ (hok := by simp [hI3])
 exact ⟨[(0, 0)], 2 * s, rfl, (by rw [show ((2 * s : Nat) : Int) = sZ * 2 by omega]; simp only [go_sem, sM_fcs, fcs_norefs] <;> rfl), show 20 ≤ 2 * s by omega, show N - 2 * s < N - s by omega⟩
theorem sort_body (L : List FA) (N : Nat) (hN : N = L.length) (hl : N < 1000000) :
  BodyIs prog 43 [.tv 0 N 0 N (.val N), .fn 44 []] (sM L) 1 (fun _ M _ => M = sM (srtE L)) := by
 refine BodyIs.of (nv := 2) (hid := [4, 6, 7]) func43 rfl (by kernel_rfl) (by simp [ntmps43]) fun _ => ?_
 rw [ntmps43, results43]
 have hNf : (fcs L).length = N := by rw [fcs, List.length_map, hN]
 have hNt : (List.take N (fcs L)).length = N := by rw [List.length_take, hNf]; omega
 apply EvC.region
 apply XR.run
 ·simp only [go_sem, sM_fcs, hNf, hNt] <;> rfl
 ·simp
 refine XR.gcTo ⟨[(4, .tv 0 N 0 N (.val N)), (6, .sc (.int .i64 N)), (7, .fn 44 [])], [], sM L, 1⟩ [4, 6, 7] [(0, 0)] rfl (by simp only [go_sem, sM_fcs, fcs_norefs] <;> rfl) ?_
 apply XR.callI rfl rfl (by simp only [go_sem] <;> rfl) (by simp only [go_sem] <;> rfl) (by simp only [go_sem] <;> rfl)
 refine (stable_body L N hN hl).mono fun _ M z h => ?_
 subst h
 refine XR.nil ?_
 exact ⟨.inr rfl, _, rfl, rfl⟩
theorem clip72_clips : Clips prog 72 := fun a n c h hlt => by
 refine PureIs.of1 3 [2] func72 ntmps72 results72 fun _ => ?_
 refine EvC.a ?_
 refine EvC.a ?_ (by simp only [go_sem, Int.toNat_natCast] <;> rfl) (by simp; try omega)
 refine EvC.rz ?_
 simp only [go_sem]
def aM (L : List FA) (n : Nat) : Mem := [(0, .cells [.tl 1 n false]), (1, .arr 6 (L.map FA.cells) false), (2, .cells [.tv 1 n 0 n (.val n)]), (3, .cells [.sc (.int .i64 0)])]
def allB (m : Mach) (ks : List Int) (most : Int) (r : AV) (M : Mem) (_ : Nat) : Prop :=
 if allR m ks most ≠ 0 then r = .tu [.sl true [] .zer, .sc (.int .i64 (allR m ks most))]
 else if alF m ks = [] then r = .tu [.sl true [] .full, .sc (.int .i64 0)]
 else r = .tu [.tv 1 (alF m ks).length 0 (alF m ks).length (.val (alF m ks).length), .sc (.int .i64 0)] ∧ M = aM (alF m ks) (alF m ks).length
theorem allB_bad {m : Mach} {ks : List Int} {most : Int} {r : AV} {M : Mem} {z : Nat} (h : allR m ks most ≠ 0) (hr : r = .tu [.sl true [] .zer, .sc (.int .i64 (allR m ks most))]) : allB m ks most r M z := by
 unfold allB; rw [if_pos h]; exact hr
theorem allB_nil {m : Mach} {ks : List Int} {most : Int} {r : AV} {M : Mem} {z : Nat} (h : allR m ks most = 0) (hL : [] = alF m ks) (hr : r = .tu [.sl true [] .full, .sc (.int .i64 0)]) : allB m ks most r M z := by
 unfold allB; rw [if_neg (fun e => e h), if_pos hL.symm]; exact hr
theorem allB_some {m : Mach} {ks : List Int} {most : Int} {r : AV} {M : Mem} {z n : Nat} (h : allR m ks most = 0) (hL : alF m ks ≠ []) (hn : n = (alF m ks).length) (hr : r = .tu [.tv 1 n 0 n (.val n), .sc (.int .i64 0)]) (hM : M = aM (alF m ks) n) : allB m ks most r M z := by
 subst hn
 unfold allB; rw [if_neg (fun e => e h), if_neg hL]; exact ⟨hr, hM⟩
set_option maxHeartbeats 4000000 in
theorem allB_body (m : Mach) (hm : ∀ r ∈ m.rows, r.2.length < 1000000) (kn : Bool) (ks : List Int) (kc : Cp) (hks : ks.length < 1000) (most : Int) :
  BodyIs prog 42 [.ag m.cells, .sl kn (ks.map intC) kc, .sc (.int .i64 most)] [] 0 (allB m ks most) := by
 refine BodyIs.of (nv := 4) (hid := [5, 6, 7, 8, 9, 10, 16, 20, 21, 25]) func42 rfl (by kernel_rfl) (by simp [ntmps42]) fun _ => ?_
 rw [ntmps42, results42]
 refine EvC.a ?_ (by simp only [go_sem, Mach.cells] <;> rfl)
 refine EvC.z 0 ?_
 refine EvC.z 1 ?_
 refine EvC.seq ?_
 refine EvC.k1 ?_ (h1 := by simp only [go_sem, Mach.cells] <;> rfl) (c1 := .ca (ready_is m hm kn ks kc (by omega) most))
 by_cases h0 : readyR m ks most = 0
 rotate_left
 ·refine EvC.a ?_
  refine EvC.ct ?_ (by simp only [go_sem, decide_eq_false h0] <;> rfl)
  refine EvC.a ?_
  have hR : allR m ks most = readyR m ks most := by unfold allR; rw [if_pos h0]
  refine EvC.ret ⟨.inl rfl, _, (by simp only [go_sem] <;> rfl), ?_⟩
  exact allB_bad (by rw [hR]; exact h0) (by rw [hR]; rfl)
 obtain ⟨hc0, hm0, hm1, lst, hlst⟩ := readyR_ok h0
 have hv := Valid.of hc0
 have hR : allR m ks most = if most < (alF m ks).length then 13 else 0 := by unfold allR; rw [if_neg (fun h => h h0)]
 have hal := alF_len hv ks
 refine EvC.a ?_
 refine EvC.cs ?_ (by simp only [go_sem, decide_eq_true h0] <;> rfl)
 refine EvC.a ?_
 refine EvC.ownC 11 0 6 (by simp only [go_sem] <;> rfl) ?_
 refine EvC.thaw 12 (by simp only [go_sem] <;> rfl) ?_
 refine EvC.seq ?_
 refine EvC.k1 ?_ (h1 := by simp only [go_sem, Mach.cells] <;> rfl) (c1 := .ca (all_is m kn ks kc))
 refine EvC.gcTo ⟨[(5, .ia [.sc (.int .i64 most)]), (6, .rf 2 0), (7, .rf 3 0), (9, .rf 0 0), (20, .fn 99 [.ia [.sl kn (ks.map intC) kc], .ia m.cells])], [], [(0, .cells [.tl 1 0 true]), (1, .arr 6 [] false), (2, .cells [.sl true [] .zer]), (3, .cells [.sc (.int .i64 0)])], 4⟩ [5, 6, 7, 9, 20] [(11, 0), (12, 1), (2, 2), (3, 3)] rfl (by simp only [go_sem] <;> rfl) ?_
 refine EvC.block ?_
 have hpk : ∀ p ∈ (#[21] : Array Nat), p < 32 := by decide
 refine EvC.range rfl (fun _ => rfl) (gf := 99) (caps := [.ia [.sl kn (ks.map intC) kc], .ia m.cells]) (xs := (alF m ks).map faV) (σ := List FA) (by simp only [go_sem] <;> rfl) (by simp only [go_sem, Mach.cells]) (all1_seq hv kn ks kc (by omega)) (fun x hx => by obtain ⟨p, _, rfl⟩ := List.mem_map.1 hx; rfl) hpk (Nat.zero_le _)
  (fun _ L => [(0, .cells [.tl 1 L.length L.isEmpty]), (1, .arr 6 (L.map FA.cells) false), (2, .cells [.sl true [] .zer]), (3, .cells [.sc (.int .i64 0)])]) (fun j L => L = (alF m ks).take j ∧ j ≤ most) ⟨[], rfl, rfl, by omega⟩ ?_ ?_
 rotate_left
 ·rintro L ⟨rfl, hle⟩
  have hle : ((alF m ks).length : Int) ≤ most := by simpa using hle
  have e1 : (alF m ks).take ((alF m ks).map faV).length = alF m ks := List.take_of_length_le (by simp)
  have hR0 : allR m ks most = 0 := by rw [hR, if_neg (by omega)]
  rw [e1]
  obtain ⟨L, hL⟩ : ∃ L, L = alF m ks := ⟨_, rfl⟩
  rw [← hL] at hal ⊢
  cases L with
  | nil =>
    refine EvC.frz 1 (by simp only [go_sem, List.map_nil] <;> rfl) ?_
    refine EvC.k1 ?_ (h1 := by simp only [go_sem, List.map_nil] <;> rfl) (c1 := .ca (clipF_is _ _ _ (fa_six [])))
    refine EvC.ret ⟨.inl rfl, _, (by simp only [go_sem] <;> rfl), ?_⟩
    exact allB_nil hR0 hL rfl
  | cons x L =>
    have hL1 : alF m ks ≠ [] := by rw [← hL]; simp
    have hL2 : (x :: L).length = (alF m ks).length := by rw [hL]
    have hLl : ((x :: L).map FA.cells).length = (x :: L).length := List.length_map _
    have hLp : (x :: L).length ≠ 0 := by simp
    have hLn := fas_norefs2 (x :: L)
    rw [show (x :: L).isEmpty = false from rfl]
    have hZL : (x :: L).map FA.cells = (alF m ks).map FA.cells := by rw [hL]
    generalize (x :: L).map FA.cells = Z at hLl hLn hZL ⊢
    generalize (x :: L).length = n at hLl hLp hal hL2 ⊢
    apply EvC.seq
    apply EvC.tr
    ·apply Tr.run
     ·simp only [go_sem] <;> rfl
     ·simp
     apply Tr.cons
     ·exact .clip rfl rfl (by simp only [go_sem] <;> rfl) (by simp only [go_sem] <;> rfl) (by simp only [go_sem] <;> rfl) (by simp only [go_sem] <;> rfl) hLl.symm hLp (by omega) (by simp only [go_sem] <;> rfl) clip72_clips
     apply Tr.done
     ·simp only [go_sem] <;> rfl
     ·simp [hLl]
    refine EvC.ret ⟨.inl rfl, _, (by simp only [go_sem] <;> rfl), ?_⟩
    refine allB_some hR0 hL1 hL2 rfl ?_
    rw [aM, ← hZL]; rfl
 rintro j L lp hj ⟨rfl, hle⟩
 have hj' : j < (alF m ks).length := by simpa using hj
 have hget : ((alF m ks).map faV)[j] = faV (alF m ks)[j] := List.getElem_map _
 rw [hget]
 have htk : (alF m ks).take (j + 1) = (alF m ks).take j ++ [(alF m ks)[j]] := by rw [List.take_succ, List.getElem?_eq_getElem hj']; rfl
 have hlj : ((alF m ks).take j).length = j := by rw [List.length_take]; omega
 generalize (alF m ks)[j] = f at htk ⊢
 generalize (alF m ks).take j = L at htk hlj ⊢
 obtain ⟨a1, a2, a3, a4, a5, a6⟩ := f
 clear hget
 rw [faV, FA.cells]
 refine EvC.b ?_
 refine ⟨rfl, ?_⟩
 simp only []
 refine EvC.z 4 ?_
 refine EvC.block ?_
 refine EvC.seq ?_
 refine EvC.a ?_
 by_cases he : (L.length : Int) = most
 ·refine EvC.ct ?_ (by simp only [go_sem, decide_eq_true he] <;> rfl)
  have hR1 : allR m ks most = 13 := by rw [hR, if_pos (by omega)]
  refine EvC.a ?_
  refine EvC.ret ⟨Or.inl rfl, _, (by simp only [go_sem] <;> rfl), ?_⟩
  exact allB_bad (by rw [hR1]; decide) (by rw [hR1]; rfl)
 refine EvC.cs ?_ (by simp only [go_sem, decide_eq_false he] <;> rfl)
 have hsn : L.map FA.cells ++ [[.sc (.int .i64 a1), .sc (.int .i64 a2), .sc (.int .i64 a3), .sc (.int .i64 a4), .sc (.int .i64 a5), .sc (.int .i64 a6)]] = (L ++ [(⟨a1, a2, a3, a4, a5, a6⟩ : FA)]).map FA.cells := by simp [FA.cells]
 have hsl : L.length + 1 = (L ++ [(⟨a1, a2, a3, a4, a5, a6⟩ : FA)]).length := by simp
 have hse : (L ++ [(⟨a1, a2, a3, a4, a5, a6⟩ : FA)]).isEmpty = false := by simp
 have hr2 : room (L.length + 1) 48 = true := by simp only [room_eq, decide_eq_true_eq]; omega
 rw [hsl] at hr2
 generalize L ++ [(⟨a1, a2, a3, a4, a5, a6⟩ : FA)] = T at hsn hsl hse hr2 htk
 refine EvC.b ?_ (by simp only [go_sem, hsn, hsl, List.length_map] <;> rfl) (by simp [hr2])
 exact ⟨[(0, 0), (1, 1), (2, 2), (3, 3)], T, rfl, (by rw [hse]; simp only [go_sem] <;> rfl), htk.symm, by omega⟩
theorem insert_nil : BodyIs prog 102 [.sl true [] .full, .sc (.int .i64 0), .sc (.int .i64 0), .fn 44 []] [] 0 (fun _ M _ => M = []) := by
 refine BodyIs.of (nv := 4) (hid := [8, 9, 14, 34]) func102 rfl (by kernel_rfl) (by simp [ntmps102]) fun _ => ?_
 rw [ntmps102, results102]
 have hI : inI64 1 = true := inI64_of (by omega) (by omega)
 refine EvC.a ?_ (hok := by simp [hI])
 refine EvC.block ?_
 refine EvC.loopS (σ := Unit) (fun _ => ⟨[(2, .sc (.int .i64 0)), (8, .sc (.int .i64 1))], [], [], 0⟩) (fun _ => 0) (fun _ => True) [2, 8] 0 ?_ ?_
 ·exact ⟨[], (), rfl, (by simp only [go_sem] <;> rfl), trivial⟩
 intro _ _
 refine EvC.seq ?_
 refine EvC.a ?_
 refine EvC.cf ?_
 refine EvC.exit ?_
 exact ⟨.inr rfl, _, rfl, rfl⟩
theorem stable_nil : BodyIs prog 73 [.sl true [] .full, .sc (.int .i64 0), .fn 44 []] [] 0 (fun _ M _ => M = []) := by
 refine BodyIs.of (nv := 3) (hid := [6, 7, 8, 9, 13, 30, 35, 54, 23, 24, 25, 26]) func73 rfl (by kernel_rfl) (by simp [ntmps73]) fun _ => ?_
 rw [ntmps73, results73]
 refine EvC.a ?_
 refine EvC.a ?_
 refine EvC.seq ?_
 refine EvC.block ?_
 refine EvC.loopS (σ := Unit) (fun _ => ⟨[(0, .sl true [] .full), (1, .sc (.int .i64 0)), (2, .fn 44 []), (6, .sc (.int .i64 20)), (7, .sc (.int .i64 0)), (8, .sc (.int .i64 20))], [], [], 0⟩) (fun _ => 0) (fun _ => True) [0, 1, 2, 6, 7, 8] 0 ?_ ?_
 ·exact ⟨[], (), rfl, (by simp only [go_sem] <;> rfl), trivial⟩
 intro _ _
 refine EvC.seq ?_
 refine EvC.a ?_
 refine EvC.cf ?_
 refine EvC.exit ?_
 apply EvC.seq
 apply EvC.region
 apply XR.run
 ·simp only [go_sem] <;> rfl
 ·simp [Mach.cells]
 refine XR.gcTo ⟨[(1, .sc (.int .i64 0)), (6, .sc (.int .i64 20)), (23, .sl true [] .full), (24, .sc (.int .i64 0)), (25, .sc (.int .i64 0)), (26, .fn 44 [])], [], [], 0⟩ [1, 6, 23, 24, 25, 26] [] rfl (by simp only [go_sem] <;> rfl) ?_
 apply XR.callI rfl rfl (by simp only [go_sem] <;> rfl) (by simp only [go_sem] <;> rfl) (by simp only [go_sem] <;> rfl)
 refine insert_nil.mono fun _ M z h => ?_
 subst h
 refine XR.nil ?_
 refine EvC.block ?_
 refine EvC.loopS (σ := Unit) (fun _ => ⟨[(1, .sc (.int .i64 0)), (6, .sc (.int .i64 20))], [], [], 0⟩) (fun _ => 0) (fun _ => True) [1, 6] 0 ?_ ?_
 ·exact ⟨[], (), rfl, (by simp only [go_sem] <;> rfl), trivial⟩
 intro _ _
 refine EvC.seq ?_
 refine EvC.a ?_
 refine EvC.cf ?_
 refine EvC.exit ?_
 exact ⟨.inr rfl, _, rfl, rfl⟩
theorem sort_nil : BodyIs prog 43 [.sl true [] .full, .fn 44 []] [] 0 (fun _ M _ => M = []) := by
 refine BodyIs.of (nv := 2) (hid := [4, 6, 7]) func43 rfl (by kernel_rfl) (by simp [ntmps43]) fun _ => ?_
 rw [ntmps43, results43]
 apply EvC.region
 apply XR.run
 ·simp only [go_sem] <;> rfl
 ·simp
 refine XR.gcTo ⟨[(4, .sl true [] .full), (6, .sc (.int .i64 0)), (7, .fn 44 [])], [], [], 0⟩ [4, 6, 7] [] rfl (by simp only [go_sem] <;> rfl) ?_
 apply XR.callI rfl rfl (by simp only [go_sem] <;> rfl) (by simp only [go_sem] <;> rfl) (by simp only [go_sem] <;> rfl)
 refine stable_nil.mono fun _ M z h => ?_
 subst h
 refine XR.nil ?_
 exact ⟨.inr rfl, _, rfl, rfl⟩
def prC (p : FA × FA) : List AV := p.1.cells ++ p.2.cells
def prsOf (f : FA) (l : List FA) : List (FA × FA) := (l.filter fun g => !decide (edgeI f g = 0)).map fun g => (f, g)
def prs : List FA → List (FA × FA)
 | [] => []
 | f :: l => prsOf f l ++ prs l
def pairsE (m : Mach) (ks : List Int) (most : Int) : Int :=
 if checkM m ≠ 0 then checkM m
 else if most < 0 ∨ 65536 < most ∨ (∃ k, ks.getLast? = some k ∧ 2 < k) then 1
 else if allR m ks 65536 ≠ 0 then allR m ks 65536
 else if most < (prs (srtE (alF m ks))).length then 13 else 0
def pairsA (m : Mach) (ks : List Int) (most : Int) : AV :=
 if pairsE m ks most ≠ 0 then .tu [.sl true [] .unk, .sc (.int .i64 (pairsE m ks most))]
 else .tu [.sl (prs (srtE (alF m ks))).isEmpty ((prs (srtE (alF m ks))).map prC) .full, .sc (.int .i64 0)]
theorem clipP_is (nl : Bool) (es : List (List AV)) (c : Cp) (h : (es.all fun y => decide (y.length = 12)) = true) : PureIs prog 45 [.sl nl es c] (.sl nl es .full) := by
 refine PureIs.of1 3 [] func45 ntmps45 results45 fun _ => ?_
 refine EvC.seq (EvC.rg (by simp only [go_sem] <;> rfl) rfl ?_)
 refine EvC.a ?_ (hok := by simp [h])
 refine EvC.ret ⟨.inl rfl, _, (by simp only [go_sem] <;> rfl), rfl, rfl⟩
theorem pairs_norefs (l : List (FA × FA)) : (l.map prC).all AV.norefs = true := by
 rw [List.all_eq_true]
 intro c hc
 obtain ⟨f, _, rfl⟩ := List.mem_map.1 hc
 rfl
theorem pair_twelve (l : List (FA × FA)) : ((l.map prC).all fun y => decide (y.length = 12)) = true := by simp [List.all_eq_true, prC, FA.cells]
set_option maxHeartbeats 8000000 in
theorem pairs_is (m : Mach) (hm : ∀ r ∈ m.rows, r.2.length < 1000000) (kn : Bool) (ks : List Int) (kc : Cp) (hks : ks.length < 1000) (most : Int) :
  PureIs prog 11 [.ag m.cells, .sl kn (ks.map intC) kc, .sc (.int .i64 most)] (pairsA m ks most) := by
 refine PureIs.of1 4 [6, 7, 8, 9, 10, 11, 12, 13, 15, 19, 40, 48, 52, 53, 54, 55, 62, 63, 64, 65, 71, 75, 41, 42, 43, 50] func11 ntmps11 results11 fun _ => ?_
 refine EvC.a ?_ (by simp only [go_sem, Mach.cells] <;> rfl)
 refine EvC.z 0 ?_
 refine EvC.seq ?_
 refine EvC.k1 ?_ (h1 := by simp only [go_sem, Mach.cells] <;> rfl) (c1 := .ca (check_is m hm))
 refine EvC.a ?_
 unfold pairsA
 by_cases h0 : checkM m = 0
 rotate_left
 ·have hR : pairsE m ks most = checkM m := by unfold pairsE; rw [if_pos h0]
  refine EvC.ct ?_ (by simp only [go_sem, decide_eq_false h0] <;> rfl)
  rw [hR, if_pos h0]
  refine EvC.a ?_
  refine EvC.rz ?_
  simp only [go_sem]
 refine EvC.cs ?_ (by simp only [go_sem, decide_eq_true h0] <;> rfl)
 obtain ⟨bad, hbad⟩ : ∃ b : Prop, b = (most < 0 ∨ 65536 < most ∨ ∃ k, ks.getLast? = some k ∧ 2 < k) := ⟨_, rfl⟩
 have hbd : Decidable bad := Classical.propDecidable bad
 obtain ⟨bB, hbB⟩ : ∃ b : Bool, b = decide bad := ⟨_, rfl⟩
 refine EvC.seq ?_
 refine EvC.mergeS (α := Unit) (fun _ => ⟨[(1, .sl kn (ks.map intC) kc), (2, .sc (.int .i64 most)), (3, .ia m.cells), (40, .sc (.bool bB))], [], [], 0⟩) (fun _ => True) [1, 2, 3, 40] 0 ?_ ?_
 ·rcases List.eq_nil_or_concat ks with rfl | ⟨ks', k, hk⟩
  ·by_cases c1 : most < 0
   ·have hv : bB = true := by rw [hbB]; exact decide_eq_true (by rw [hbad]; exact .inl c1)
    apply EvC.tr
    ·apply Tr.run
     ·simp only [go_sem, decide_eq_true c1, List.map_nil, List.length_nil, Int.natCast_zero] <;> rfl
     ·simp
     apply Tr.cons
     ·exact .skipv (.ia [.sc (.int .i64 0)]) rfl rfl (by simp only [go_sem] <;> rfl) (by simp only [go_sem] <;> rfl)
     apply Tr.done
     ·simp only [go_sem, decide_eq_true c1] <;> rfl
     ·simp
    exact ⟨rfl, [], (), rfl, (by rw [hv]; simp only [go_sem, Mach.cells] <;> rfl), trivial⟩
   by_cases c2 : 65536 < most
   ·have hv : bB = true := by rw [hbB]; exact decide_eq_true (by rw [hbad]; exact .inr (.inl c2))
    apply EvC.tr
    ·apply Tr.run
     ·simp only [go_sem, decide_eq_false c1, decide_eq_true c2, List.map_nil, List.length_nil, Int.natCast_zero] <;> rfl
     ·simp
     apply Tr.cons
     ·exact .skipv (.ia [.sc (.int .i64 0)]) rfl rfl (by simp only [go_sem] <;> rfl) (by simp only [go_sem] <;> rfl)
     apply Tr.done
     ·simp only [go_sem, decide_eq_false c1] <;> rfl
     ·simp
    exact ⟨rfl, [], (), rfl, (by rw [hv]; simp only [go_sem, Mach.cells] <;> rfl), trivial⟩
   have hv : bB = false := by rw [hbB]; exact decide_eq_false (by rw [hbad]; simp [c1, c2])
   apply EvC.tr
   ·apply Tr.run
    ·simp only [go_sem, decide_eq_false c1, decide_eq_false c2, List.map_nil, List.length_nil, Int.natCast_zero] <;> rfl
    ·simp
    apply Tr.cons
    ·exact .skipv (.ia [.sc (.int .i64 0)]) rfl rfl (by simp only [go_sem] <;> rfl) (by simp only [go_sem] <;> rfl)
    apply Tr.done
    ·simp only [go_sem, decide_eq_false c1] <;> rfl
    ·simp
   exact ⟨rfl, [], (), rfl, (by rw [hv]; simp only [go_sem, Mach.cells] <;> rfl), trivial⟩
  ·rw [List.concat_eq_append] at hk
   have hl : (ks.map intC).length = ks'.length + 1 := by rw [hk]; simp
   have hg : (ks.map intC)[(((ks'.length : Int) + 1) - 1).toNat]? = some [.sc (.int .i64 k)] := by
    rw [hk, show (((ks'.length : Int) + 1) - 1).toNat = ks'.length by omega, List.getElem?_map, List.getElem?_append_right (Nat.le_refl _), Nat.sub_self]; rfl
   have hlast : ks.getLast? = some k := by rw [hk]; simp
   have hp : decide ((0 : Int) < (ks'.length : Int) + 1) = true := decide_eq_true (by omega)
   have hI : inI64 ((ks'.length : Int) + 1 - 1) = true := inI64_of (by omega) (by rw [hk] at hks; simp at hks; omega)
   have hI2 : inI64 (ks'.length : Int) = true := inI64_of (by omega) (by rw [hk] at hks; simp at hks; omega)
   have hr : (((ks'.length : Int) + 1) - 1).toNat < ks'.length + 1 := by omega
   by_cases c1 : most < 0
   ·have hv : bB = true := by rw [hbB]; exact decide_eq_true (by rw [hbad]; exact .inl c1)
    refine EvC.gL ?_ (h := by simp only [go_sem, decide_eq_true c1, hl, hg, hp, Int.natCast_add, Int.natCast_one] <;> rfl)
    exact ⟨rfl, [], (), rfl, (by rw [hv]; simp only [go_sem, Mach.cells] <;> rfl), trivial⟩
   by_cases c2 : 65536 < most
   ·have hv : bB = true := by rw [hbB]; exact decide_eq_true (by rw [hbad]; exact .inr (.inl c2))
    refine EvC.gL ?_ (h := by simp only [go_sem, decide_eq_false c1, decide_eq_true c2, hl, hg, hp, Int.natCast_add, Int.natCast_one] <;> rfl)
    exact ⟨rfl, [], (), rfl, (by rw [hv]; simp only [go_sem, Mach.cells] <;> rfl), trivial⟩
   by_cases c3 : 2 < k
   ·have hv : bB = true := by rw [hbB]; exact decide_eq_true (by rw [hbad]; exact .inr (.inr ⟨k, hlast, c3⟩))
    refine EvC.gL ?_ (h := by simp only [go_sem, decide_eq_false c1, decide_eq_false c2, decide_eq_true c3, hl, hg, hp, Int.natCast_add, Int.natCast_one] <;> rfl) (hok := by simp [hI, hI2])
    exact ⟨rfl, [], (), rfl, (by rw [hv]; simp only [go_sem, Mach.cells] <;> rfl), trivial⟩
   have hv : bB = false := by rw [hbB]; exact decide_eq_false (by rw [hbad, hlast]; simp [c1, c2, c3])
   refine EvC.gL ?_ (h := by simp only [go_sem, decide_eq_false c1, decide_eq_false c2, decide_eq_false c3, hl, hg, hp, Int.natCast_add, Int.natCast_one] <;> rfl) (hok := by simp [hI, hI2])
   exact ⟨rfl, [], (), rfl, (by rw [hv]; simp only [go_sem, Mach.cells] <;> rfl), trivial⟩
 rintro ⟨⟩ -
 by_cases hb0 : bad
 ·have hv : bB = true := by rw [hbB]; exact decide_eq_true hb0
  have hR : pairsE m ks most = 1 := by unfold pairsE; rw [if_neg (fun h => h h0), if_pos (by rw [hbad] at hb0; exact hb0)]
  rw [hv, hR, if_pos (show (1 : Int) ≠ 0 by decide)]
  refine EvC.ct ?_
  refine EvC.a ?_
  refine EvC.rz ?_
  simp only [go_sem]
 have hv : bB = false := by rw [hbB]; exact decide_eq_false hb0
 rw [hv]
 refine EvC.cs ?_
 apply EvC.seq
 apply EvC.region
 apply XR.run
 ·simp only [go_sem] <;> rfl
 ·simp [Mach.cells]
 refine XR.gcTo ⟨[(2, .sc (.int .i64 most)), (42, .ag m.cells), (43, .sl kn (ks.map intC) kc)], [], [], 0⟩ [2, 42, 43] [] rfl (by simp only [go_sem, Mach.cells] <;> rfl) ?_
 apply XR.callI rfl rfl (by simp only [go_sem] <;> rfl) (by simp only [go_sem] <;> rfl) (by simp only [go_sem] <;> rfl)
 refine (allB_body m hm kn ks kc hks 65536).mono fun r M z h => ?_
 have hbase : pairsE m ks most = if allR m ks 65536 ≠ 0 then allR m ks 65536 else if most < (prs (srtE (alF m ks))).length then 13 else 0 := by
  unfold pairsE
  rw [if_neg (fun h => h h0), if_neg (by rw [hbad] at hb0; exact hb0)]
 unfold allB at h
 by_cases hA : allR m ks 65536 = 0
 rotate_left
 ·rw [if_pos hA] at h
  rw [if_pos hA] at hbase
  subst h
  apply XR.done
  ·simp only [go_sem] <;> rfl
  ·simp
  refine EvC.gcTo ⟨[(9, .sl true [] .zer), (10, .sc (.int .i64 (allR m ks 65536)))], [], [], 0⟩ [9, 10] [] rfl (by simp only [go_sem] <;> rfl) ?_
  refine EvC.seq ?_
  refine EvC.a ?_
  refine EvC.ct ?_ (by simp only [go_sem, decide_eq_false hA] <;> rfl)
  rw [hbase, if_pos hA]
  refine EvC.a ?_
  refine EvC.rz ?_
  simp only [go_sem]
 rw [if_neg (fun e => e hA)] at h hbase
 by_cases hL : alF m ks = []
 ·rw [if_pos hL] at h
  subst h
  have hprs : prs (srtE (alF m ks)) = [] := by rw [hL]; rfl
  have hm0 : 0 ≤ most := by
   rw [hbad] at hb0
   omega
  rw [hprs] at hbase ⊢
  rw [if_neg (by simp; omega)] at hbase
  rw [hbase]
  apply XR.done
  ·simp only [go_sem] <;> rfl
  ·simp
  refine EvC.gcTo ⟨[(2, .sc (.int .i64 most)), (9, .sl true [] .full), (10, .sc (.int .i64 0))], [], [], 0⟩ [2, 9, 10] [] rfl (by simp only [go_sem] <;> rfl) ?_
  refine EvC.seq ?_
  refine EvC.a ?_
  refine EvC.cs ?_
  apply EvC.seq
  apply EvC.region
  apply XR.run
  ·simp only [go_sem] <;> rfl
  ·simp
  refine XR.gcTo ⟨[(9, .sl true [] .full), (50, .sl true [] .full)], [], [], 0⟩ [9, 50] [] rfl (by simp only [go_sem] <;> rfl) ?_
  apply XR.callI rfl rfl (by simp only [go_sem] <;> rfl) (by simp only [go_sem] <;> rfl) (by simp only [go_sem] <;> rfl)
  refine sort_nil.mono fun _ M z h => ?_
  subst h
  refine XR.nil ?_
  refine EvC.gcTo ⟨[(9, .sl true [] .full)], [], [], 0⟩ [9] [] rfl (by simp only [go_sem] <;> rfl) ?_
  refine EvC.a ?_
  refine EvC.frz 0 (by simp only [go_sem] <;> rfl) ?_
  refine EvC.seq ?_
  refine EvC.a ?_
  refine EvC.block ?_
  refine EvC.loopS (σ := Unit) (fun _ => ⟨[(11, .sl true [] .unk), (53, .sc (.int .i64 0)), (54, .sc (.int .i64 0))], [], [], 0⟩) (fun _ => 0) (fun _ => True) [11, 53, 54] 0 ?_ ?_
  ·exact ⟨[], (), rfl, (by simp only [go_sem] <;> rfl), trivial⟩
  intro _ _
  refine EvC.a ?_
  refine EvC.seq ?_
  refine EvC.cf ?_
  refine EvC.exit ?_
  refine EvC.k1 ?_ (c1 := .ca (clipP_is true [] .unk rfl))
  refine EvC.rz ?_
  simp only [go_sem]
  rw [if_neg (show ¬ (0 : Int) ≠ 0 from fun h => h rfl)]
 rw [if_neg hL] at h
 obtain ⟨rfl, rfl⟩ := h
 have hv0 := (readyR_ok (show readyR m ks 65536 = 0 by
  unfold allR at hA
  split at hA
  ·rename_i e; exact absurd hA e
  ·rename_i e; exact Classical.not_not.1 e))
 have hal : ((alF m ks).length : Int) ≤ 65536 := by
  unfold allR at hA
  split at hA
  ·rename_i e; exact absurd hA e
  ·split at hA
   ·cases hA
   ·omega
 obtain ⟨S, hS⟩ : ∃ S, S = srtE (alF m ks) := ⟨_, rfl⟩
 obtain ⟨n, hn⟩ : ∃ n, n = (alF m ks).length := ⟨_, rfl⟩
 have hSl : S.length = n := by rw [hS, srtE_len, hn]
 have hm0 : 0 ≤ most ∧ most ≤ 65536 := by
  rw [hbad] at hb0
  omega
 rw [← hS] at hbase ⊢
 rw [← hn] at hal ⊢
 apply XR.done
 ·simp only [go_sem] <;> rfl
 ·simp
 refine EvC.gcTo ⟨[(2, .sc (.int .i64 most)), (9, .tv 0 n 0 n (.val n)), (10, .sc (.int .i64 0))], [], sM (alF m ks), 1⟩ [2, 9, 10] [(1, 0)] rfl (by simp only [go_sem, aM, sM_fcs, fas_norefs2, show (alF m ks).map FA.cells = fcs (alF m ks) from rfl, fcs_norefs] <;> rfl) ?_
 refine EvC.seq ?_
 refine EvC.a ?_
 refine EvC.cs ?_
 apply EvC.seq
 apply EvC.region
 apply XR.run
 ·simp only [go_sem] <;> rfl
 ·simp
 refine XR.gcTo ⟨[(2, .sc (.int .i64 most)), (9, .tv 0 n 0 n (.val n)), (50, .tv 0 n 0 n (.val n))], [], sM (alF m ks), 1⟩ [2, 9, 50] [(0, 0)] rfl (by simp only [go_sem, sM_fcs, fcs_norefs] <;> rfl) ?_
 apply XR.callI rfl rfl (by simp only [go_sem] <;> rfl) (by simp only [go_sem] <;> rfl) (by simp only [go_sem] <;> rfl)
 refine (sort_body (alF m ks) n hn (by omega)).mono fun _ M z h => ?_
 subst h
 rw [← hS]
 refine XR.nil ?_
 have hFl : (fcs S).length = n := by rw [fcs, List.length_map, hSl]
 have hFn := fcs_norefs S
 have hFt : List.take n (fcs S) = fcs S := List.take_of_length_le (by omega)
 refine EvC.gcTo ⟨[(2, .sc (.int .i64 most)), (9, .tv 0 n 0 n (.val n))], [], sM S, 1⟩ [2, 9] [(0, 0)] rfl (by simp only [go_sem, sM_fcs, fcs_norefs] <;> rfl) ?_
 refine EvC.frz 0 (by simp only [go_sem, sM_fcs, hFl, hFn, hFt] <;> rfl) ?_
 refine EvC.gcTo ⟨[(2, .sc (.int .i64 most)), (9, .sl false (fcs S) .full)], [], [], 0⟩ [2, 9] [] rfl (by simp only [go_sem] <;> rfl) ?_
 have hFg : ∀ (i : Nat) (f : FA), S[i]? = some f → (fcs S)[i]? = some f.cells := fun i f h => by rw [fcs, List.getElem?_map, h]; rfl
 have hFs : (fcs S).all (fun c => decide (c.length = 6)) = true := fa_six S
 refine EvC.a ?_
 refine EvC.seq ?_
 refine EvC.a ?_ (by simp only [go_sem, hFl] <;> rfl)
 refine EvC.block ?_
 refine EvC.loopS (σ := Nat × List (FA × FA)) (fun g => ⟨[(2, .sc (.int .i64 most)), (9, .sl false (fcs S) .full), (11, .tl 0 g.2.length g.2.isEmpty), (52, .sl false (fcs S) .full), (53, .sc (.int .i64 n)), (54, .sc (.int .i64 g.1))], [], [(0, .arr 12 (g.2.map prC) true)], 1⟩) (fun g => n - g.1) (fun g => g.1 ≤ n ∧ prs S = g.2 ++ prs (S.drop g.1) ∧ (g.2.length : Int) ≤ most) [2, 9, 11, 52, 53, 54] 1 ?_ ?_
 ·exact ⟨[(0, 0)], (0, []), rfl, (by simp only [go_sem, Int.natCast_zero, List.map_nil, List.length_nil, List.isEmpty_nil] <;> rfl), Nat.zero_le _, rfl, hm0.1⟩
 rintro ⟨i, out⟩ ⟨i1, i2, i3⟩
 simp only at i1 i2 i3 ⊢
 have hon := pairs_norefs out
 have hol : (out.map prC).length = out.length := List.length_map _
 refine EvC.a ?_
 refine EvC.seq ?_
 refine EvC.cond (by simp only [go_sem] <;> rfl) (fun hc => ?_) (fun hc => ?_)
 rotate_left
 ·refine EvC.exit ?_
  obtain rfl : i = n := by have : ¬ i < n := (by simpa using hc); omega
  clear hc
  rw [List.drop_of_length_le (by omega), prs, List.append_nil] at i2
  rw [i2] at hbase ⊢
  rw [if_neg (by omega)] at hbase
  rw [hbase, if_neg (show ¬ (0 : Int) ≠ 0 from fun h => h rfl)]
  have h12 := pair_twelve out
  generalize out.map prC = O at hon hol h12 ⊢
  refine EvC.frz 0 (by simp only [go_sem, hon, hol] <;> rfl) ?_
  refine EvC.k1 ?_ (h1 := by simp only [go_sem, hol] <;> rfl) (c1 := .ca (clipP_is out.isEmpty O .unk h12))
  refine EvC.rz ?_
  simp only [go_sem]
 have hil : i < n := by simpa using hc
 clear hc
 have hge : S[i]? = some S[i] := List.getElem?_eq_getElem (by omega)
 have hdr : S.drop i = S[i] :: S.drop (i + 1) := List.drop_eq_getElem_cons (by omega)
 generalize S[i] = f at hge hdr
 have hfg := hFg i f hge
 rw [hdr, prs] at i2
 have hit : (i : Int).toNat = i := Int.toNat_natCast i
 rw [FA.cells] at hfg
 refine EvC.skip ?_
 refine EvC.seq ?_
 refine EvC.block ?_
 refine EvC.a ?_ (by simp only [go_sem, hfg, hit, hFl] <;> rfl)
 refine EvC.z 5 ?_
 have hI1 : inI64 ((i : Int) + 1) = true := inI64_of (by omega) (by omega)
 have hi1 : ((i : Int) + 1).toNat = i + 1 := by omega
 have hil2 : (i : Int) + 1 ≤ n := by omega
 have hFs2 : ∀ y ∈ fcs S, y.length = 6 := fun y hy => by simpa using List.all_eq_true.1 hFs y hy
 have hdl : ((fcs S).drop (i + 1)).length = n - (i + 1) := by rw [List.length_drop, hFl]
 refine EvC.a ?_ (by simp only [go_sem, hFl, hi1, hdl] <;> rfl) (by simp [hI1, hil2]; exact ⟨hFs2, by omega⟩)
 obtain ⟨T, hT⟩ : ∃ T, T = S.drop (i + 1) := ⟨_, rfl⟩
 have hTc : (fcs S).drop (i + 1) = fcs T := by rw [hT, fcs, fcs, List.map_drop]
 have hTl : (fcs T).length = n - (i + 1) := by rw [← hTc, hdl]
 have hTl2 : T.length = n - (i + 1) := by rw [← hTl, fcs, List.length_map]
 rw [hTc]
 rw [← hT] at i2
 obtain ⟨k0, hk0⟩ : ∃ k, k = n - (i + 1) := ⟨_, rfl⟩
 rw [← hk0] at hTl hTl2 ⊢
 have hTg : ∀ (i : Nat) (f : FA), T[i]? = some f → (fcs T)[i]? = some f.cells := fun i f h => by rw [fcs, List.getElem?_map, h]; rfl
 obtain ⟨iZ, hiZ⟩ : ∃ z : Int, z = (i : Int) := ⟨_, rfl⟩
 rw [← hiZ]
 refine EvC.block ?_
 refine EvC.loopS (σ := Nat × List (FA × FA)) (fun g => ⟨[(2, .sc (.int .i64 most)), (9, .sl false (fcs S) .full), (52, .sl false (fcs S) .full), (53, .sc (.int .i64 n)), (54, .sc (.int .i64 iZ)), (11, .tl 0 g.2.length g.2.isEmpty), (13, .ia [.sc (.int .i64 f.kind), .sc (.int .i64 f.state), .sc (.int .i64 f.input), .sc (.int .i64 f.to), .sc (.int .i64 f.at'), .sc (.int .i64 f.out)]), (62, .sl false (fcs T) .full), (63, .sc (.int .i64 k0)), (64, .sc (.int .i64 g.1))], [], [(0, .arr 12 (g.2.map prC) true)], 1⟩) (fun g => k0 - g.1) (fun g => g.1 ≤ k0 ∧ prs S = g.2 ++ (prsOf f (T.drop g.1) ++ prs T) ∧ (g.2.length : Int) ≤ most) [2, 9, 52, 53, 54, 11, 13, 62, 63, 64] 1 ?_ ?_
 ·exact ⟨[(0, 0)], (0, out), rfl, (by simp only [go_sem, Int.natCast_zero, hon] <;> rfl), Nat.zero_le _, i2, i3⟩
 rintro ⟨k, out⟩ ⟨k1, k2, k3⟩
 clear hon hol i2 i3
 simp only at k1 k2 k3 ⊢
 have hon := pairs_norefs out
 have hol : (out.map prC).length = out.length := List.length_map _
 refine EvC.a ?_
 refine EvC.seq ?_
 refine EvC.cond (by simp only [go_sem] <;> rfl) (fun hc => ?_) (fun hc => ?_)
 rotate_left
 ·refine EvC.exit ?_
  obtain rfl : k = k0 := by have : ¬ k < k0 := (by simpa using hc); omega
  clear hc
  rw [List.drop_of_length_le (by omega), show prsOf f [] = [] from rfl, List.nil_append] at k2
  refine EvC.b ?_ (hok := by rw [hiZ]; exact hI1)
  exact ⟨[(0, 0)], (i + 1, out), rfl, (by rw [hiZ]; simp only [go_sem, hon, Int.natCast_add, Int.natCast_one] <;> rfl), ⟨by omega, by rw [← hT]; exact k2, k3⟩, by simp only; omega⟩
 have hkl : k < k0 := by simpa using hc
 clear hc
 have hgk : T[k]? = some T[k] := List.getElem?_eq_getElem (by omega)
 have hdk : T.drop k = T[k] :: T.drop (k + 1) := List.drop_eq_getElem_cons (by omega)
 generalize T[k] = g at hgk hdk
 have hgg := hTg k g hgk
 rw [FA.cells] at hgg
 rw [hdk] at k2
 have hkt : (k : Int).toNat = k := Int.toNat_natCast k
 have hI2 : inI64 ((k : Int) + 1) = true := inI64_of (by omega) (by omega)
 refine EvC.skip ?_
 refine EvC.seq ?_
 refine EvC.block ?_
 refine EvC.a ?_ (by simp only [go_sem, hgg, hkt, hTl] <;> rfl)
 refine EvC.z 4 ?_
 have q := edge_is f g
 rw [FA.cells, FA.cells] at q
 refine EvC.seq ?_
 refine EvC.k1 ?_ (c1 := .ca q)
 by_cases he : edgeI f g = 0
 ·have hp : prsOf f (g :: T.drop (k + 1)) = prsOf f (T.drop (k + 1)) := by rw [prsOf, List.filter_cons_of_neg (by simp [he])]; rfl
  rw [hp] at k2
  refine EvC.ct ?_ (by simp only [go_sem, decide_eq_true he] <;> rfl)
  refine EvC.exit ?_
  refine EvC.b ?_ (hok := by simp [hI2])
  exact ⟨[(0, 0)], (k + 1, out), rfl, (by simp only [go_sem, hon, Int.natCast_add, Int.natCast_one] <;> rfl), ⟨hkl, k2, k3⟩, by simp only; omega⟩
 have hp : prsOf f (g :: T.drop (k + 1)) = (f, g) :: prsOf f (T.drop (k + 1)) := by rw [prsOf, List.filter_cons_of_pos (by simp [he])]; rfl
 rw [hp] at k2
 refine EvC.cs ?_ (by simp only [go_sem, decide_eq_false he] <;> rfl)
 refine EvC.seq ?_
 refine EvC.a ?_ (by simp only [go_sem, hol] <;> rfl)
 by_cases hm1 : (out.length : Int) = most
 ·have hR : pairsE m ks most = 13 := by
    rw [hbase, if_pos]
    have := congrArg List.length k2
    simp only [List.length_append, List.length_cons] at this
    omega
  refine EvC.ct ?_ (by simp only [go_sem, decide_eq_true hm1] <;> rfl)
  rw [hR, if_pos (show (13 : Int) ≠ 0 by decide)]
  refine EvC.a ?_
  refine EvC.rz ?_
  simp only [go_sem]
 refine EvC.cs ?_ (by simp only [go_sem, decide_eq_false hm1] <;> rfl)
 have hsn : out.map prC ++ [[.sc (.int .i64 f.kind), .sc (.int .i64 f.state), .sc (.int .i64 f.input), .sc (.int .i64 f.to), .sc (.int .i64 f.at'), .sc (.int .i64 f.out), .sc (.int .i64 g.kind), .sc (.int .i64 g.state), .sc (.int .i64 g.input), .sc (.int .i64 g.to), .sc (.int .i64 g.at'), .sc (.int .i64 g.out)]] = (out ++ [(f, g)]).map prC := by rw [List.map_append]; rfl
 have hsl : out.length + 1 = (out ++ [(f, g)]).length := by simp
 have hse : (out ++ [(f, g)]).isEmpty = false := by simp
 have hk3 : ((out ++ [(f, g)]).length : Int) ≤ most := by rw [← hsl]; omega
 have hk2 : prs S = (out ++ [(f, g)]) ++ (prsOf f (T.drop (k + 1)) ++ prs T) := by rw [k2]; simp
 have hr2 : room (out.length + 1) 96 = true := by simp only [room_eq, decide_eq_true_eq]; omega
 rw [hsl] at hr2
 have hUn := pairs_norefs (out ++ [(f, g)])
 have hUl : ((out ++ [(f, g)]).map prC).length = (out ++ [(f, g)]).length := List.length_map _
 obtain ⟨U, hU⟩ : ∃ U, U = out ++ [(f, g)] := ⟨_, rfl⟩
 rw [← hU] at hsn hsl hse hr2 hUn hUl hk3 hk2
 obtain ⟨UC, hUC⟩ : ∃ U2, U2 = U.map prC := ⟨_, rfl⟩
 rw [← hUC] at hsn hUn hUl
 refine EvC.b ?_ (by simp only [go_sem, hsn, hsl, hol] <;> rfl) (by simp [hr2])
 refine EvC.b ?_ (hok := by simp [hI2])
 exact ⟨[(0, 0)], (k + 1, U), rfl, (by rw [hse, ← hUC]; simp only [go_sem, hUn, hUl, Int.natCast_add, Int.natCast_one] <;> rfl), ⟨hkl, hk2, hk3⟩, by simp only; omega⟩
end Go.Avl
