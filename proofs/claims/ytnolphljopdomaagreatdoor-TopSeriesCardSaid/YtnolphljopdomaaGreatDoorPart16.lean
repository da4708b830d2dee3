/-
  Lemmas.
  How the arguments of the top laws read, and the table of the lexemes' pairs.
-/
import Derived.Test.YtnolphljopdomaaGreatDoorCards
import Derived.Test.YtnolphljopdomaaGreatDoorTie
import Derived.LaidMore
import Derived.Lay
import Derived.Stop.Joined
import Derived.Test.YtnolphljopdomaaGreatDoorPart15
set_option linter.unusedSimpArgs false
set_option linter.unusedVariables false
set_option linter.unnecessarySimpa false
set_option linter.deprecated false
namespace Go.Avl
open Go Go.Proofs
set_option maxRecDepth 100000
open Go Go.Proofs.Tryz
set_option maxRecDepth 10000
theorem fits_edge {n : Nat} {o : Int} {e : Int × Int} (h : fitsR n o e.1 e.2 = true) : (e.1 = -1 ∧ e.2 = -1) ∨ (0 ≤ e.1 ∧ e.1 < n ∧ 0 ≤ e.2 ∧ e.2 < o) := by
 simp only [fitsR, Bool.or_eq_true, Bool.and_eq_true, decide_eq_true_eq] at h
 rcases h with h | h
 ·exact .inl h
 ·exact .inr ⟨h.1.1.1, h.1.1.2, h.1.2, h.2⟩
def eAt (m : Mach) (s i : Nat) : Int × Int := (((m.rows[s]?).map (·.2)).getD [])[i]?.getD (-1, -1)
theorem eAt_get {m : Mach} {s i : Nat} {r : Row} {e : Int × Int} (h1 : m.rows[s]? = some r) (h2 : r.2[i]? = some e) : eAt m s i = e := by simp [eAt, h1, h2]
theorem eAt_stepR (m : Mach) (s i : Nat) : eAt m s i = stepR m (s : Int) (i : Int) := by
 unfold eAt stepR
 rw [if_neg (by omega)]; simp
def isNone (e : Int × Int) : Bool := decide (e.1 = -1) && decide (e.2 = -1)
theorem eAt_fit {m : Mach} (hv : Valid m) {s i : Nat} (hs : s < m.rows.length) (hi : (i : Int) < m.ins) : ∃ r, m.rows[s]? = some r ∧ r.2[i]? = some (eAt m s i) ∧ (isNone (eAt m s i) = true ∨ (0 ≤ (eAt m s i).1 ∧ (eAt m s i).1 < m.rows.length ∧ 0 ≤ (eAt m s i).2 ∧ (eAt m s i).2 < m.outs)) := by
 have h1 : m.rows[s]? = some m.rows[s] := List.getElem?_eq_getElem hs
 obtain ⟨h2, h3⟩ := hv.row _ (List.getElem_mem hs)
 have h4 : (m.rows[s]).2[i]? = some ((m.rows[s]).2[i]'(by omega)) := List.getElem?_eq_getElem _
 have he := eAt_get h1 h4
 refine ⟨_, h1, by rw [he]; exact h4, ?_⟩
 have hf := fits_edge (h3 _ (List.getElem_mem (show i < (m.rows[s]).2.length by omega)))
 rw [he]
 rcases hf with h | h
 ·left; simp [isNone, h]
 ·exact .inr h
theorem stepR_eAt {m : Mach} {s : Nat} {a : Int} (ha : 0 ≤ a) : stepR m (s : Int) a = eAt m s a.toNat := by
 rw [eAt_stepR, Int.toNat_of_nonneg ha]
theorem stepR_neg {m : Mach} {s a : Int} (hs : s < 0) : stepR m s a = (-1, -1) := by rw [stepR, if_pos hs]
structure LD where
 x : LM
 y : LM
 sw : Bool
 p0 : Int
 p1 : Int
 q0 : Int
 q1 : Int
 e : Int × Int
structure LD.Ok (d : LD) : Prop where
 x : d.x.Ok
 y : d.y.Ok
 p0 : 0 ≤ d.p0 ∧ d.p0 < 256
 p1 : 0 ≤ d.p1 ∧ d.p1 < 256
 q0 : 0 ≤ d.q0 ∧ d.q0 < 256
 q1 : 0 ≤ d.q1 ∧ d.q1 < 256
def LD.cells (d : LD) : List AV := d.x.cells ++ (d.y.cells ++ [.sc (.bool d.sw), .sc (.int .u8 d.p0), .sc (.int .u8 d.p1), .sc (.int .u8 d.q0), .sc (.int .u8 d.q1), .sc (.int .i64 d.e.1), .sc (.int .i64 d.e.2)])
end Go.Avl
namespace Go.Proofs.YtnolphljopdomaaGreatDoor
open Go Go.Avl Go.Proofs Go.ChangeShapes Go.RowKit
theorem Tryz.own : ownKnob Tryz.prog.godebug = none := by kernel_rfl
theorem Tryz.laidOut : laidOutB Tryz.prog = true := by kernel_rfl
abbrev laidT : List (String × DataW Unit) := [("math/bits.deBruijn32tab", Rows.laid_math_bits_deBruijn32tab), ("math/bits.deBruijn64tab", Rows.laid_math_bits_deBruijn64tab), ("internal/strconv.uint64pow10", Rows.laid_internal_strconv_uint64pow10), ("unicode/utf8.acceptRanges", Rows.laid_unicode_utf8_acceptRanges), ("gauntlet/lexemes.pairs", Rows.laid_gauntlet_lexemes_pairs), ("unicode/utf8.first", Rows.laid_unicode_utf8_first)]
section
variable {H : Type} {enc : TypeId × Value → H} {w : World}
theorem u8wf {n : Int} (h : (Lit.int .u8 n).wf = true) : 0 ≤ n ∧ n < 256 := by
 simp [Lit.wf, IntKind.min, IntKind.max, IntKind.signed, IntKind.bits] at h
 omega
theorem len_of {n b : Nat} (hb : 1 ≤ b) (h : n * b ≤ reachBytes) : (n : Int) ≤ 140737488355328 := by
 have h1 : n * 1 ≤ n * b := Nat.mul_le_mul_left n hb
 have h2 : reachBytes ≤ 140737488355328 := by decide
 omega
theorem rd_u8 : Reads enc Tryz.prog w 5 u8C (fun n => 0 ≤ n ∧ n < 256) := (Reads.int (by kernel_rfl)).mono fun a h => ⟨a, u8wf h, rfl⟩
theorem u16wf {n : Int} (h : (Lit.int .u16 n).wf = true) : 0 ≤ n ∧ n < 65536 := by
 simp [Lit.wf, IntKind.min, IntKind.max, IntKind.signed, IntKind.bits] at h
 omega
theorem rd_u16 : Reads enc Tryz.prog w 87 u16C (fun n => 0 ≤ n ∧ n < 65536) := (Reads.int (by kernel_rfl)).mono fun a h => ⟨a, u16wf h, rfl⟩
theorem rd_u16s : Reads enc Tryz.prog w 22 (fun x : Bool × List Int => [.sl x.1 (x.2.map u16C) .unk]) (fun x => (∀ e ∈ x.2, 0 ≤ e ∧ e < 65536) ∧ (x.2.length : Int) ≤ 140737488355328) :=
 (Reads.slice (by kernel_rfl) rd_u16 (fun a => by rw [show Program.cellsOf Tryz.prog 87 = 1 by kernel_rfl]; rfl) (by rw [show Program.cellsOf Tryz.prog 87 = 1 by kernel_rfl]; exact Nat.succ_pos _)).mono fun a h => ⟨a, ⟨h.1, len_of (b := Program.bytesOf Tryz.prog 87) (by decide +kernel) h.2.2⟩, rfl⟩
theorem rd_LM : Reads enc Tryz.prog w 24 LM.cells LM.Ok := by
 have := (Reads.struct (enc := enc) (w := w) (tot := 5) Tryz.underlying24 (by kernel_rfl) (.cons (sz := 1) rfl (by kernel_rfl) rfl rd_u8 (.cons (sz := 1) rfl (by kernel_rfl) rfl rd_u8 (.cons (sz := 1) rfl (by kernel_rfl) rfl rd_u8 (.cons (sz := 1) rfl (by kernel_rfl) rfl (Reads.bool Tryz.underlying4)
  (.cons (sz := 1) rfl (by kernel_rfl) rfl rd_u16s .nil))))))
 exact this.mono fun a h => ⟨⟨a.1, a.2.1, a.2.2.1, a.2.2.2.1, a.2.2.2.2.1.1, a.2.2.2.2.1.2, .unk⟩, ⟨h.1.1, h.2.1.1, h.2.2.1.1, h.2.2.2.2.1.1⟩, rfl⟩
end
theorem gTable : Tryz.prog.globalNamed "gauntlet/lexemes.pairs" = some 1 := by kernel_rfl
theorem tTable : (Tryz.prog.globals[1]?).map (·.type) = some 219 := by kernel_rfl
theorem string_eq {s t : ByteArray} (h : s.data.toList = t.data.toList) : s = t := by
 obtain ⟨⟨l⟩⟩ := s; obtain ⟨⟨k⟩⟩ := t
 simp only at h
 rw [h]
set_option maxRecDepth 100000 in
theorem pair_cell {W : World} {m : Nat} {cs : List Value} {n : List UInt8} {x : DataW Unit × List MemPlace} (h : DataW.trod (fun _ => ()) Tryz.prog W 0 (fun _ => true) false m 9 cs = some x) (hx : x.1 = .lit (.string n)) :
  cs = [.string ⟨n.toArray⟩] := by
 obtain ⟨s, q0, r0, _⟩ := DataW.trod_string Tryz.underlying9 h
 rw [r0] at hx
 simp only [DataW.lit.injEq, Lit.string.injEq] at hx
 have : s = ⟨n.toArray⟩ := string_eq (by simpa using hx)
 rw [q0, this]
set_option maxRecDepth 100000 in
theorem globs_of {W : World} (h : laidMetH Tryz.prog laidT W) : Globs (Live W) W := by
 rw [MakeChecks.laidMetH_plain _ _ _ (by kernel_rfl)] at h
 obtain ⟨ps, ⟨_, _, _, _, _, _, _, _, _, _, ⟨_, _, _, _, _, _, _, _, _, _, ⟨_, _, _, _, _, _, _, _, _, _, ⟨_, _, _, _, _, _, _, _, _, _, ⟨g, t, cs, fuel, p, q, hg, ht, hvar, hd, _, _⟩, _⟩, _⟩, _⟩, _⟩, _, _⟩ := h
 obtain rfl := Option.some.inj (gTable.symm.trans hg)
 obtain rfl := Option.some.inj (tTable.symm.trans ht)
 obtain ⟨xs, m, _, he, hl, hlen, hf⟩ := DataW.trod_array Tryz.underlying219 hd
 have e9 : Program.cellsOf Tryz.prog 9 = 1 := by kernel_rfl
 have hl5 : cs.toList.length = 5 := hl.trans (by kernel_rfl)
 have hcs : cs.toList = pairTab := by
  rw [e9] at hf
  match xs, hlen with
  | [x0, x1, x2, x3, x4], _ =>
    have h0 := hf 0 (by decide)
    have h1 := hf 1 (by decide)
    have h2 := hf 2 (by decide)
    have h3 := hf 3 (by decide)
    have h4 := hf 4 (by decide)
    simp only [Rows.laid_gauntlet_lexemes_pairs, Prod.mk.injEq, DataW.agg.injEq, List.map_cons, List.map_nil, List.cons.injEq, and_true] at he
    obtain ⟨⟨e0, e1, e2, e3, e4⟩, _⟩ := he
    obtain ⟨d0, p0⟩ := x0
    obtain ⟨d1, p1⟩ := x1
    obtain ⟨d2, p2⟩ := x2
    obtain ⟨d3, p3⟩ := x3
    obtain ⟨d4, p4⟩ := x4
    simp only at e0 e1 e2 e3 e4
    subst e0 e1 e2 e3 e4
    have k0 := pair_cell h0 rfl
    have k1 := pair_cell h1 rfl
    have k2 := pair_cell h2 rfl
    have k3 := pair_cell h3 rfl
    have k4 := pair_cell h4 rfl
    match hcl : cs.toList, hl5 with
    | [c0, c1, c2, c3, c4], _ =>
      rw [hcl] at k0 k1 k2 k3 k4
      simp only [Nat.zero_mul, Nat.one_mul, Nat.mul_one, List.drop_zero, List.drop_succ_cons, List.take_succ_cons, List.take_zero, List.cons.injEq, and_true] at k0 k1 k2 k3 k4
      rw [k0, k1, k2, k3, k4]; rfl
 intro g vs hgv j hj
 match g, hgv with
 | 1, hgv =>
   have hgv : pairTab = vs := by simpa [laidAt] using hgv
   subst hgv
   have hc := World.var?_cell gTable hvar j
   have : cs[j]? = some pairTab[j] := by rw [← Array.getElem?_toList, hcs, List.getElem?_eq_getElem hj]
   rw [this] at hc
   refine ⟨?_, hc⟩
   unfold World.cell? at hc
   show 1 < W.heap.size
   cases hb : W.heap[1]? with
   | none => simp [hb] at hc
   | some o => exact (Array.getElem?_eq_some_iff.1 hb).1
theorem door_met (os : Os) (args : Array Value) : laidMetH Tryz.prog laidT ((World.laidAll Tryz.prog os laidT).forCall (fun _ _ => 0) ⟨#[], args, []⟩).memory := by
 rw [MakeChecks.laidMetH_plain _ _ _ (by kernel_rfl)]
 exact laidMet_laidAll _ (by kernel_rfl) (by kernel_rfl)
end Go.Proofs.YtnolphljopdomaaGreatDoor
namespace Go.Avl
open Go Go.Proofs.Tryz
set_option maxRecDepth 10000
theorem none11_is : PureIs prog 41 [] (.ag [.sc (.int .i64 (-1)), .sc (.int .i64 (-1))]) := by
 refine PureIs.of1 1 [] func41 ntmps41 results41 fun _ => ?_
 refine EvC.a ?_
 refine EvC.a ?_
 refine EvC.rz ?_
 simp only [go_sem]
def rowG (r : Row) : List AV := [.sl r.1 (r.2.map edgeC) .full]
@[go_sem] theorem norefs_rowG (l : List Row) : (l.map rowG).all AV.norefs = true := by simp [List.all_eq_true, rowG, AV.norefs, AV.noref]
@[go_sem] theorem norefs_rowC (l : List Row) : (l.map rowC).all AV.norefs = true := by simp [List.all_eq_true, rowC, AV.norefs, AV.noref]
def Mach.cellsF (m : Mach) : List AV := [.sc (.int .i64 m.ins), .sc (.int .i64 m.outs), .sl m.nl (m.rows.map rowG) .full]
theorem edges_unk (l : List (Int × Int)) : AV.unkss (l.map edgeC) = l.map edgeC := unkss_map edgeC (fun _ => rfl) l
theorem rowC_unk (r : Row) : AV.unks (rowC r) = rowC r := by simp only [rowC, AV.unks, AV.unk, edges_unk]
theorem rowG_unk (r : Row) : AV.unks (rowG r) = rowC r := by simp only [rowC, rowG, AV.unks, AV.unk, edges_unk]
theorem rowsC_unk (l : List Row) : AV.unkss (l.map rowC) = l.map rowC := unkss_map rowC rowC_unk l
theorem rowsG_unk (l : List Row) : AV.unkss (l.map rowG) = l.map rowC := by rw [unkss_eq, List.map_map]; exact List.map_congr_left fun r _ => rowG_unk r
theorem Mach.cells_unk (m : Mach) : AV.unks m.cells = m.cells := by simp only [Mach.cells, AV.unks, AV.unk, rowsC_unk]
theorem Mach.cellsF_unk (m : Mach) : AV.unks m.cellsF = m.cells := by simp only [Mach.cells, Mach.cellsF, AV.unks, AV.unk, rowsG_unk]
@[go_sem] theorem norefs_cells (m : Mach) : AV.norefs m.cells = true := by simp [Mach.cells, AV.norefs, AV.noref]
@[go_sem] theorem norefs_cellsF (m : Mach) : AV.norefs m.cellsF = true := by simp [Mach.cellsF, AV.norefs, AV.noref]
end Go.Avl
