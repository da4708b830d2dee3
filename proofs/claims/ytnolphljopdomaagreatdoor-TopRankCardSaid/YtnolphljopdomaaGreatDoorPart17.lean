/-
  Lemmas.
  How the arguments of the top laws read, and the table of the lexemes' pairs.
-/
import Derived.Test.YtnolphljopdomaaGreatDoorCards
import Derived.Test.YtnolphljopdomaaGreatDoorTie
import Derived.LaidMore
import Derived.Lay
import Derived.Stop.Joined
import Derived.Test.YtnolphljopdomaaGreatDoorPart16
set_option linter.unusedSimpArgs false
set_option linter.unusedVariables false
set_option linter.unnecessarySimpa false
set_option linter.deprecated false
namespace Go.Avl
open Go Go.Proofs
set_option maxRecDepth 100000
noncomputable def tabE : Tab := ⟨fun f => Nat.beq f 27, fun f xs => bif Nat.beq f 27 then evP Tryz.prog tab0 300 10 27 xs else none⟩
theorem tabE_ok : TabOk Tryz.prog tabE := fun f xs r h0 => by
 have h : (bif Nat.beq f 27 then evP Tryz.prog tab0 300 10 27 xs else none) = some r := h0
 rw [beq_dec, bif_inv] at h
 split at h
 ·rename_i hf
  subst hf
  exact .ev tab0_ok noNum mixedOk h
 ·cases h
theorem concatE1 (e1 e2 : Bool) (c1 c2 c : Cp) : PureIs Tryz.prog 11 [.sc (.int .i64 1), .sl false [[.sl e1 [] c1], [.sl e2 [] c2]] c] (.tu [.sl true [] .full, .sc (.int .i64 0)]) :=
 .ev (B := tabE) (n := 300) (d := 10) tabE_ok noNum mixedOk (by kernel_rfl)
theorem concatE2 (e1 e2 : Bool) (c1 c2 c : Cp) : PureIs Tryz.prog 11 [.sc (.int .i64 2), .sl false [[.sl e1 [] c1], [.sl e2 [] c2]] c] (.tu [.sl true [] .full, .sc (.int .i64 0)]) :=
 .ev (B := tabE) (n := 300) (d := 10) tabE_ok noNum mixedOk (by kernel_rfl)
theorem concatE3 (e1 e2 : Bool) (c1 c2 c : Cp) : PureIs Tryz.prog 11 [.sc (.int .i64 3), .sl false [[.sl e1 [] c1], [.sl e2 [] c2]] c] (.tu [.sl true [] .full, .sc (.int .i64 0)]) :=
 .ev (B := tabE) (n := 300) (d := 10) tabE_ok noNum mixedOk (by kernel_rfl)
open Go Go.Proofs.Tryz
set_option maxRecDepth 10000
theorem fits_edge {n : Nat} {o : Int} {e : Int × Int} (h : fitsR n o e.1 e.2 = true) : (e.1 = -1 ∧ e.2 = -1) ∨ (0 ≤ e.1 ∧ e.1 < n ∧ 0 ≤ e.2 ∧ e.2 < o) := by
 simp only [fitsR, Bool.or_eq_true, Bool.and_eq_true, decide_eq_true_eq] at h
 rcases h with h | h
 ·exact .inl h
 ·exact .inr ⟨h.1.1.1, h.1.1.2, h.1.2, h.2⟩
theorem hEn : ∀ x, AV.norefs (edgeC x) = true := fun _ => rfl
theorem gcells_edge (f : Nat → Int × Int) (N : Nat) : gcells edgeC f N = ((List.range N).map f).map edgeC := by rw [gcells, List.map_map]; rfl
def eAt (m : Mach) (s i : Nat) : Int × Int := (((m.rows[s]?).map (·.2)).getD [])[i]?.getD (-1, -1)
theorem eAt_get {m : Mach} {s i : Nat} {r : Row} {e : Int × Int} (h1 : m.rows[s]? = some r) (h2 : r.2[i]? = some e) : eAt m s i = e := by simp [eAt, h1, h2]
def isNone (e : Int × Int) : Bool := decide (e.1 = -1) && decide (e.2 = -1)
theorem wOf_ok {l : List Int} {n : Int} (hn : 1 ≤ n) : ∀ a ∈ wOf l n, 0 ≤ a ∧ a < n := by
 intro a ha
 simp only [wOf, List.mem_map] at ha
 obtain ⟨y, -, rfl⟩ := ha
 exact ⟨Int.emod_nonneg _ (by omega), Int.emod_lt_of_pos _ (by omega)⟩
theorem wOf_len (l : List Int) (n : Int) : (wOf l n).length ≤ 12 := by simp [wOf]; omega
theorem eAt_fit {m : Mach} (hv : Valid m) {s i : Nat} (hs : s < m.rows.length) (hi : (i : Int) < m.ins) : ∃ r, m.rows[s]? = some r ∧ r.2[i]? = some (eAt m s i) ∧ (isNone (eAt m s i) = true ∨ (0 ≤ (eAt m s i).1 ∧ (eAt m s i).1 < m.rows.length ∧ 0 ≤ (eAt m s i).2 ∧ (eAt m s i).2 < m.outs)) := by
 have h1 : m.rows[s]? = some m.rows[s] := List.getElem?_eq_getElem hs
 obtain ⟨h2, h3⟩ := hv.row _ (List.getElem_mem hs)
 have h4 : (m.rows[s]).2[i]? = some ((m.rows[s]).2[i]'(by omega)) := List.getElem?_eq_getElem _
 have he := eAt_get h1 h4
 refine ⟨_, h1, by rw [he]; exact h4, ?_⟩
 have hf := fits_edge (h3 _ (List.getElem_mem (show i < (m.rows[s]).2.length by omega)))
 rw [he]
 rcases hf with h | h
 ·left; simp [isNone, h]
 ·exact .inr h
theorem valid_tab {ins outs : Int} {nl : Bool} {n N : Nat} {f : Nat → Nat → Int × Int} (hN : ins = (N : Int)) (h1 : 1 ≤ N ∧ N ≤ 16) (h2 : 1 ≤ outs ∧ outs ≤ 16) (h3 : 1 ≤ n ∧ n ≤ 64)
  (hf : ∀ s i, s < n → i < N → isNone (f s i) = true ∨ (0 ≤ (f s i).1 ∧ (f s i).1 < n ∧ 0 ≤ (f s i).2 ∧ (f s i).2 < outs)) : Valid ⟨ins, outs, nl, (List.range n).map fun s => (false, (List.range N).map (f s))⟩ := by
 refine ⟨by simp only; omega, h2, by simpa using h3, fun r hr => ?_⟩
 obtain ⟨s, hs, rfl⟩ := List.mem_map.1 hr
 refine ⟨by simp [hN], fun e he => ?_⟩
 obtain ⟨i, hi, rfl⟩ := List.mem_map.1 he
 simp only [List.length_map, List.length_range]
 have := hf s i (List.mem_range.1 hs) (List.mem_range.1 hi)
 unfold fitsR
 rcases this with h | h
 ·unfold isNone at h; simp only [Bool.and_eq_true, decide_eq_true_eq] at h; simp [h.1, h.2]
 ·simp [h.1, h.2.1, h.2.2.1, h.2.2.2]
theorem row_gcells {m : Mach} {N s : Nat} {r : Row} (he : m.rows[s]? = some r) (hN : r.2.length = N) : r.2.map edgeC = gcells edgeC (eAt m s) N := by
 rw [gcells_edge]
 congr 1
 refine List.ext_getElem (by simp [hN]) fun i k1 k2 => ?_
 simp only [List.getElem_map, List.getElem_range]
 exact (eAt_get he (List.getElem?_eq_getElem k1)).symm
structure LD where
 x : LM
 y : LM
 sw : Bool
 p0 : Int
 p1 : Int
 q0 : Int
 q1 : Int
 e : Int × Int
structure LD.Ok (d : LD) : Prop where
 x : d.x.Ok
 y : d.y.Ok
 p0 : 0 ≤ d.p0 ∧ d.p0 < 256
 p1 : 0 ≤ d.p1 ∧ d.p1 < 256
 q0 : 0 ≤ d.q0 ∧ d.q0 < 256
 q1 : 0 ≤ d.q1 ∧ d.q1 < 256
def LD.cells (d : LD) : List AV := d.x.cells ++ (d.y.cells ++ [.sc (.bool d.sw), .sc (.int .u8 d.p0), .sc (.int .u8 d.p1), .sc (.int .u8 d.q0), .sc (.int .u8 d.q1), .sc (.int .i64 d.e.1), .sc (.int .i64 d.e.2)])
def LD.y2 (d : LD) : LM := { d.y with ins := d.x.ins }
theorem LD.y2_ok {d : LD} (h : d.Ok) : d.y2.Ok := { h.y with ins := h.x.ins }
theorem dOf0_is {d : LD} (h : d.Ok) (hs : d.sw = false) : PureIs prog 5 [.ag d.cells] (.tu [.ag d.x.mach.cells, .ag d.y2.mach.cells]) := by
 have hA := mOf_is h.x
 have hB := mOf_is (LD.y2_ok h)
 generalize d.x.mach = a at hA
 generalize d.y2.mach = b at hB
 obtain ⟨x, y, sw, p0, p1, q0, q1, e⟩ := d
 simp only at hs
 subst hs
 have hA : PureIs prog 13 [.ag [.sc (.int .u8 x.st), .sc (.int .u8 x.ins), .sc (.int .u8 x.outs), .sc (.bool x.part), .sl x.nl (x.es.map u16C) x.cap]] (.ag [.sc (.int .i64 a.ins), .sc (.int .i64 a.outs), .sl a.nl (a.rows.map rowC) .unk]) := hA
 have hB : PureIs prog 13 [.ag [.sc (.int .u8 y.st), .sc (.int .u8 x.ins), .sc (.int .u8 y.outs), .sc (.bool y.part), .sl y.nl (y.es.map u16C) y.cap]] (.ag [.sc (.int .i64 b.ins), .sc (.int .i64 b.outs), .sl b.nl (b.rows.map rowC) .unk]) := hB
 refine PureIs.of1 15 [23, 35, 43, 78, 84, 97, 139] func5 ntmps5 results5 fun _ => ?_
 refine EvC.a ?_ (by simp only [go_sem, LD.cells, LM.cells, List.cons_append, List.nil_append] <;> rfl)
 refine EvC.k1 ?_ (c1 := .ca hA)
 refine EvC.a ?_
 refine EvC.seq ?_
 refine EvC.a ?_
 refine EvC.ct ?_
 refine EvC.a ?_
 refine EvC.k1D mixed ?_ (c1 := .ca hB)
 refine EvC.rz ?_
 simp only [go_sem]
 rfl
def idL (n : Nat) : List Int := (List.range n).map fun k : Nat => (k : Int)
theorem idL_get {n i : Nat} (h : i < n) : (idL n)[i]? = some (i : Int) := by simp [idL, h]
def posL (n : Nat) (a : Int) : Int := 1 + a % ((n : Int) - 1)
def permL (n : Nat) (a b : Int) : List Int := if 1 < n then ((idL n).set (posL n a).toNat (posL n b)).set (posL n b).toNat (posL n a) else idL n
theorem permL_len (n : Nat) (a b : Int) : (permL n a b).length = n := by
 unfold permL; split <;> simp [idL]
theorem posL_ok {n : Nat} {a : Int} (h : 1 < n) (ha : 0 ≤ a) : 1 ≤ posL n a ∧ posL n a < n := by
 have h1 := Int.emod_nonneg a (b := (n : Int) - 1) (by omega)
 have h2 := Int.emod_lt_of_pos a (b := (n : Int) - 1) (by omega)
 unfold posL; omega
theorem permL_ok {n : Nat} {a b : Int} (h : 1 ≤ n) (ha : 0 ≤ a) (hb : 0 ≤ b) : ∀ v ∈ permL n a b, 0 ≤ v ∧ v < n := by
 intro v hv
 have hid : ∀ v ∈ idL n, 0 ≤ v ∧ v < n := fun v hv => by
  obtain ⟨k, hk, rfl⟩ := List.mem_map.1 hv
  have := List.mem_range.1 hk
  omega
 unfold permL at hv
 split at hv
 ·rename_i h1
  have h2 := posL_ok h1 ha
  have h3 := posL_ok h1 hb
  rcases List.mem_or_eq_of_mem_set hv with hv | rfl
  ·rcases List.mem_or_eq_of_mem_set hv with hv | rfl
   ·exact hid v hv
   ·omega
  ·omega
 ·exact hid v hv
end Go.Avl
namespace Go.Proofs.YtnolphljopdomaaGreatDoor
open Go Go.Avl Go.Proofs Go.ChangeShapes Go.RowKit
theorem Tryz.own : ownKnob Tryz.prog.godebug = none := by kernel_rfl
theorem Tryz.laidOut : laidOutB Tryz.prog = true := by kernel_rfl
abbrev laidT : List (String × DataW Unit) := [("math/bits.deBruijn32tab", Rows.laid_math_bits_deBruijn32tab), ("math/bits.deBruijn64tab", Rows.laid_math_bits_deBruijn64tab), ("internal/strconv.uint64pow10", Rows.laid_internal_strconv_uint64pow10), ("unicode/utf8.acceptRanges", Rows.laid_unicode_utf8_acceptRanges), ("gauntlet/lexemes.pairs", Rows.laid_gauntlet_lexemes_pairs), ("unicode/utf8.first", Rows.laid_unicode_utf8_first)]
section
variable {H : Type} {enc : TypeId × Value → H} {w : World}
theorem u8wf {n : Int} (h : (Lit.int .u8 n).wf = true) : 0 ≤ n ∧ n < 256 := by
 simp [Lit.wf, IntKind.min, IntKind.max, IntKind.signed, IntKind.bits] at h
 omega
theorem i64wf {n : Int} (h : (Lit.int .i64 n).wf = true) : -9223372036854775808 ≤ n ∧ n ≤ 9223372036854775807 := by
 simp [Lit.wf, IntKind.min, IntKind.max, IntKind.signed, IntKind.bits] at h
 omega
theorem len_of {n b : Nat} (hb : 1 ≤ b) (h : n * b ≤ reachBytes) : (n : Int) ≤ 140737488355328 := by
 have h1 : n * 1 ≤ n * b := Nat.mul_le_mul_left n hb
 have h2 : reachBytes ≤ 140737488355328 := by decide
 omega
theorem rd_u8 : Reads enc Tryz.prog w 5 u8C (fun n => 0 ≤ n ∧ n < 256) := (Reads.int (by kernel_rfl)).mono fun a h => ⟨a, u8wf h, rfl⟩
theorem rd_i64 : Reads enc Tryz.prog w 3 (fun n : Int => [.sc (.int .i64 n)]) (fun n => -9223372036854775808 ≤ n ∧ n ≤ 9223372036854775807) := (Reads.int Tryz.underlying3).mono fun a h => ⟨a, i64wf h, rfl⟩
theorem u16wf {n : Int} (h : (Lit.int .u16 n).wf = true) : 0 ≤ n ∧ n < 65536 := by
 simp [Lit.wf, IntKind.min, IntKind.max, IntKind.signed, IntKind.bits] at h
 omega
theorem rd_u16 : Reads enc Tryz.prog w 87 u16C (fun n => 0 ≤ n ∧ n < 65536) := (Reads.int (by kernel_rfl)).mono fun a h => ⟨a, u16wf h, rfl⟩
theorem rd_u16s : Reads enc Tryz.prog w 22 (fun x : Bool × List Int => [.sl x.1 (x.2.map u16C) .unk]) (fun x => (∀ e ∈ x.2, 0 ≤ e ∧ e < 65536) ∧ (x.2.length : Int) ≤ 140737488355328) :=
 (Reads.slice (by kernel_rfl) rd_u16 (fun a => by rw [show Program.cellsOf Tryz.prog 87 = 1 by kernel_rfl]; rfl) (by rw [show Program.cellsOf Tryz.prog 87 = 1 by kernel_rfl]; exact Nat.succ_pos _)).mono fun a h => ⟨a, ⟨h.1, len_of (b := Program.bytesOf Tryz.prog 87) (by decide +kernel) h.2.2⟩, rfl⟩
theorem rd_LM : Reads enc Tryz.prog w 24 LM.cells LM.Ok := by
 have := (Reads.struct (enc := enc) (w := w) (tot := 5) Tryz.underlying24 (by kernel_rfl) (.cons (sz := 1) rfl (by kernel_rfl) rfl rd_u8 (.cons (sz := 1) rfl (by kernel_rfl) rfl rd_u8 (.cons (sz := 1) rfl (by kernel_rfl) rfl rd_u8 (.cons (sz := 1) rfl (by kernel_rfl) rfl (Reads.bool Tryz.underlying4)
  (.cons (sz := 1) rfl (by kernel_rfl) rfl rd_u16s .nil))))))
 exact this.mono fun a h => ⟨⟨a.1, a.2.1, a.2.2.1, a.2.2.2.1, a.2.2.2.2.1.1, a.2.2.2.2.1.2, .unk⟩, ⟨h.1.1, h.2.1.1, h.2.2.1.1, h.2.2.2.2.1.1⟩, rfl⟩
theorem rd_u8x2 : Reads enc Tryz.prog w 25 (fun e : Int × Int => [.sc (.int .u8 e.1), .sc (.int .u8 e.2)]) (fun e => (0 ≤ e.1 ∧ e.1 < 256) ∧ 0 ≤ e.2 ∧ e.2 < 256) := (Reads.array (n := 2) (sz := 1) (by kernel_rfl) (by kernel_rfl) (by kernel_rfl) rd_u8).mono fun l h => by
 match l, h with
 | [a, b], ⟨_, h⟩ =>
   simp only [List.mem_cons, forall_eq_or_imp, List.not_mem_nil, false_implies, implies_true, and_true] at h
   exact ⟨(a, b), ⟨h.1, h.2⟩, rfl⟩
theorem rd_edge : Reads enc Tryz.prog w 27 (fun e : Int × Int => [.sc (.int .i64 e.1), .sc (.int .i64 e.2)]) (fun _ => True) := by
 have := (Reads.struct (enc := enc) (w := w) (tot := 2) Tryz.underlying27 (by kernel_rfl) (.cons (sz := 1) rfl (by kernel_rfl) rfl rd_i64 (.cons (sz := 1) rfl (by kernel_rfl) rfl rd_i64 .nil)))
 exact this.mono fun a h => ⟨(a.1, a.2.1), trivial, rfl⟩
theorem rd_LD : Reads enc Tryz.prog w 29 LD.cells LD.Ok := by
 have := (Reads.struct (enc := enc) (w := w) (tot := 17) Tryz.underlying29 (by kernel_rfl) (.cons (sz := 5) rfl (by kernel_rfl) rfl rd_LM (.cons (sz := 5) rfl (by kernel_rfl) rfl rd_LM (.cons (sz := 1) rfl (by kernel_rfl) rfl (Reads.bool Tryz.underlying4)
  (.cons (sz := 2) rfl (by kernel_rfl) rfl rd_u8x2 (.cons (sz := 2) rfl (by kernel_rfl) rfl rd_u8x2 (.cons (sz := 2) rfl (by kernel_rfl) rfl rd_edge .nil)))))))
 exact this.mono fun a h => ⟨⟨a.1, a.2.1, a.2.2.1, a.2.2.2.1.1, a.2.2.2.1.2, a.2.2.2.2.1.1, a.2.2.2.2.1.2, a.2.2.2.2.2.1⟩, ⟨h.1, h.2.1, h.2.2.2.1.1, h.2.2.2.1.2, h.2.2.2.2.1.1, h.2.2.2.2.1.2⟩, rfl⟩
theorem rd_u8s : Reads enc Tryz.prog w 30 (fun x : Bool × List Int => [.sl x.1 (x.2.map u8C) .unk]) (fun x => (∀ e ∈ x.2, 0 ≤ e ∧ e < 256) ∧ (x.2.length : Int) ≤ 140737488355328) :=
 (Reads.slice (by kernel_rfl) rd_u8 (fun a => by rw [show Program.cellsOf Tryz.prog 5 = 1 by kernel_rfl]; rfl) (by rw [show Program.cellsOf Tryz.prog 5 = 1 by kernel_rfl]; exact Nat.succ_pos _)).mono fun a h => ⟨a, ⟨h.1, len_of (b := Program.bytesOf Tryz.prog 5) (by decide +kernel) h.2.2⟩, rfl⟩
theorem rd_W : Reads enc Tryz.prog w 32 (fun x : Bool × List Int => [.sl x.1 (x.2.map u8C) .unk]) (fun x => ∀ e ∈ x.2, 0 ≤ e ∧ e < 256) := by
 have := (Reads.struct (enc := enc) (w := w) (tot := 1) Tryz.underlying32 (by kernel_rfl) (.cons (sz := 1) rfl (by kernel_rfl) rfl rd_u8s .nil))
 exact this.mono fun a h => ⟨a.1, h.1.1, rfl⟩
end
theorem gTable : Tryz.prog.globalNamed "gauntlet/lexemes.pairs" = some 1 := by kernel_rfl
theorem tTable : (Tryz.prog.globals[1]?).map (·.type) = some 219 := by kernel_rfl
theorem string_eq {s t : ByteArray} (h : s.data.toList = t.data.toList) : s = t := by
 obtain ⟨⟨l⟩⟩ := s; obtain ⟨⟨k⟩⟩ := t
 simp only at h
 rw [h]
set_option maxRecDepth 100000 in
theorem pair_cell {W : World} {m : Nat} {cs : List Value} {n : List UInt8} {x : DataW Unit × List MemPlace} (h : DataW.trod (fun _ => ()) Tryz.prog W 0 (fun _ => true) false m 9 cs = some x) (hx : x.1 = .lit (.string n)) :
  cs = [.string ⟨n.toArray⟩] := by
 obtain ⟨s, q0, r0, _⟩ := DataW.trod_string Tryz.underlying9 h
 rw [r0] at hx
 simp only [DataW.lit.injEq, Lit.string.injEq] at hx
 have : s = ⟨n.toArray⟩ := string_eq (by simpa using hx)
 rw [q0, this]
set_option maxRecDepth 100000 in
theorem globs_of {W : World} (h : laidMetH Tryz.prog laidT W) : Globs (Live W) W := by
 rw [MakeChecks.laidMetH_plain _ _ _ (by kernel_rfl)] at h
 obtain ⟨ps, ⟨_, _, _, _, _, _, _, _, _, _, ⟨_, _, _, _, _, _, _, _, _, _, ⟨_, _, _, _, _, _, _, _, _, _, ⟨_, _, _, _, _, _, _, _, _, _, ⟨g, t, cs, fuel, p, q, hg, ht, hvar, hd, _, _⟩, _⟩, _⟩, _⟩, _⟩, _, _⟩ := h
 obtain rfl := Option.some.inj (gTable.symm.trans hg)
 obtain rfl := Option.some.inj (tTable.symm.trans ht)
 obtain ⟨xs, m, _, he, hl, hlen, hf⟩ := DataW.trod_array Tryz.underlying219 hd
 have e9 : Program.cellsOf Tryz.prog 9 = 1 := by kernel_rfl
 have hl5 : cs.toList.length = 5 := hl.trans (by kernel_rfl)
 have hcs : cs.toList = pairTab := by
  rw [e9] at hf
  match xs, hlen with
  | [x0, x1, x2, x3, x4], _ =>
    have h0 := hf 0 (by decide)
    have h1 := hf 1 (by decide)
    have h2 := hf 2 (by decide)
    have h3 := hf 3 (by decide)
    have h4 := hf 4 (by decide)
    simp only [Rows.laid_gauntlet_lexemes_pairs, Prod.mk.injEq, DataW.agg.injEq, List.map_cons, List.map_nil, List.cons.injEq, and_true] at he
    obtain ⟨⟨e0, e1, e2, e3, e4⟩, _⟩ := he
    obtain ⟨d0, p0⟩ := x0
    obtain ⟨d1, p1⟩ := x1
    obtain ⟨d2, p2⟩ := x2
    obtain ⟨d3, p3⟩ := x3
    obtain ⟨d4, p4⟩ := x4
    simp only at e0 e1 e2 e3 e4
    subst e0 e1 e2 e3 e4
    have k0 := pair_cell h0 rfl
    have k1 := pair_cell h1 rfl
    have k2 := pair_cell h2 rfl
    have k3 := pair_cell h3 rfl
    have k4 := pair_cell h4 rfl
    match hcl : cs.toList, hl5 with
    | [c0, c1, c2, c3, c4], _ =>
      rw [hcl] at k0 k1 k2 k3 k4
      simp only [Nat.zero_mul, Nat.one_mul, Nat.mul_one, List.drop_zero, List.drop_succ_cons, List.take_succ_cons, List.take_zero, List.cons.injEq, and_true] at k0 k1 k2 k3 k4
      rw [k0, k1, k2, k3, k4]; rfl
 intro g vs hgv j hj
 match g, hgv with
 | 1, hgv =>
   have hgv : pairTab = vs := by simpa [laidAt] using hgv
   subst hgv
   have hc := World.var?_cell gTable hvar j
   have : cs[j]? = some pairTab[j] := by rw [← Array.getElem?_toList, hcs, List.getElem?_eq_getElem hj]
   rw [this] at hc
   refine ⟨?_, hc⟩
   unfold World.cell? at hc
   show 1 < W.heap.size
   cases hb : W.heap[1]? with
   | none => simp [hb] at hc
   | some o => exact (Array.getElem?_eq_some_iff.1 hb).1
theorem door_met (os : Os) (args : Array Value) : laidMetH Tryz.prog laidT ((World.laidAll Tryz.prog os laidT).forCall (fun _ _ => 0) ⟨#[], args, []⟩).memory := by
 rw [MakeChecks.laidMetH_plain _ _ _ (by kernel_rfl)]
 exact laidMet_laidAll _ (by kernel_rfl) (by kernel_rfl)
end Go.Proofs.YtnolphljopdomaaGreatDoor
