/-
  Lemmas.
-/
import Derived.Test.YtmmcendgdcmlkaaDoorPart9
set_option linter.unusedSimpArgs false
set_option linter.unusedVariables false
set_option linter.unnecessarySimpa false
set_option linter.deprecated false
namespace Go.Avl
open Go Go.Proofs.Tryd
set_option maxRecDepth 10000
def pickN (m : Mach) (n : Int) : FA := (allF m allK).getD (n % ((allF m allK).length : Int)).toNat ⟨0, 0, 0, 0, 0, 0⟩
def listL (m : Mach) (ns : List Int) : List FA := (ns.take 12).map (pickN m)
set_option maxHeartbeats 4000000 in
theorem list18_is {m : Mach} (hv : Valid m) (nl : Bool) (ns : List Int) (c : Cp) (hns : ∀ n ∈ ns, 0 ≤ n ∧ n < 65536) (hl : (ns.length : Int) ≤ 140737488355328) (hA : 0 < (allF m allK).length) :
  PureIs prog 18 [.ag m.cells, .sl nl (ns.map u16C) c] (.sl (listL m ns).isEmpty ((listL m ns).map FA.cells) .unk) := by
 have hll : (ns.map u16C).length = ns.length := List.length_map _
 refine PureIs.of1 3 [4, 5, 6, 7, 8, 16, 29] func18 ntmps18 results18 fun _ => ?_
 refine EvC.a ?_ (by simp only [go_sem, Mach.cells] <;> rfl)
 refine EvC.z 0 ?_
 refine EvC.a ?_
 refine EvC.seq ?_
 refine EvC.a ?_
 refine EvC.block ?_
 have hel : (listL m ns).length = min 12 ns.length := by rw [listL, List.length_map, List.length_take]
 obtain ⟨K, hK⟩ : ∃ K, K = min 12 ns.length := ⟨_, rfl⟩
 rw [← hK] at hel
 have hfe : (listL m ns).isEmpty = (K == 0) := by rw [← hel]; cases listL m ns <;> rfl
 refine EvC.loopS (σ := Nat) (fun i => ⟨[(1, .sl nl (ns.map u16C) c), (2, .ia m.cells), (5, .tl 0 i (i == 0)), (6, .sc (.int .i64 i))], [], [(0, .arr 6 (((listL m ns).take i).map FA.cells) true)], 1⟩) (fun i => K - i) (fun i => i ≤ K) [1, 2, 5, 6] 1 ?_ ?_
 ·exact ⟨[(2, 0)], 0, rfl, (by simp only [go_sem, Mach.cells, Int.natCast_zero, List.take_zero, List.map_nil] <;> rfl), Nat.zero_le _⟩
 intro i hi
 have hLn := norefs_faL ((listL m ns).take i)
 have hLl : (((listL m ns).take i).map FA.cells).length = i := by rw [List.length_map, List.length_take]; omega
 refine EvC.seq ?_
 by_cases hiK : i < K
 rotate_left
 ·obtain rfl : i = K := by omega
  rw [List.take_of_length_le (by omega)] at hLn hLl ⊢
  rw [hfe]
  generalize (listL m ns).map FA.cells = L at hLn hLl ⊢
  by_cases h1 : i < ns.length
  ·have d1 : decide ((i : Int) < ns.length) = true := decide_eq_true (by omega)
   have d2 : decide ((i : Int) < 12) = false := decide_eq_false (by omega)
   refine EvC.g ?_ (h := by simp only [go_sem, hll, d1, d2] <;> rfl)
   refine EvC.cf ?_
   refine EvC.exit ?_
   refine EvC.frz 0 (by simp only [go_sem, hLn, hLl] <;> rfl) ?_
   refine EvC.a ?_
   refine EvC.rz ?_
   simp only [go_sem]
  ·have d1 : decide ((i : Int) < ns.length) = false := decide_eq_false (by omega)
   refine EvC.g ?_ (h := by simp only [go_sem, hll, d1] <;> rfl)
   refine EvC.cf ?_
   refine EvC.exit ?_
   refine EvC.frz 0 (by simp only [go_sem, hLn, hLl] <;> rfl) ?_
   refine EvC.a ?_
   refine EvC.rz ?_
   simp only [go_sem]
 have d1 : decide ((i : Int) < ns.length) = true := decide_eq_true (by omega)
 have d2 : decide ((i : Int) < 12) = true := decide_eq_true (by omega)
 refine EvC.g ?_ (h := by simp only [go_sem, hll, d1, d2] <;> rfl)
 refine EvC.cr ?_
 refine EvC.seq ?_
 refine EvC.block ?_
 have hil : i < ns.length := by omega
 have he : ns[i]? = some (ns[i]'hil) := List.getElem?_eq_getElem hil
 have hnm := hns _ (List.getElem_mem hil)
 have htk : (listL m ns).take (i + 1) = (listL m ns).take i ++ [pickN m (ns[i]'hil)] := by
  rw [List.take_succ_eq_append_getElem (by omega)]; simp [listL]
 generalize ns[i]'hil = n at he hnm htk
 have hx : (allF m allK)[(n % ((allF m allK).length : Int)).toNat]? = some (pickN m n) := by
  have h1 : 0 ≤ n % ((allF m allK).length : Int) := Int.emod_nonneg _ (by omega)
  have h2 : n % ((allF m allK).length : Int) < (allF m allK).length := Int.emod_lt_of_pos _ (by omega)
  have h3 : (n % ((allF m allK).length : Int)).toNat < (allF m allK).length := by omega
  rw [List.getElem?_eq_getElem h3, pickN, List.getD_eq_getElem?_getD, List.getElem?_eq_getElem h3]; rfl
 have q := fOf_is hv n hnm _ hx
 generalize pickN m n = f at q htk
 have hnc : (ns.map u16C)[i]? = some [.sc (.int .u16 n)] := by rw [List.getElem?_map, he]; rfl
 have hit : (i : Int).toNat = i := Int.toNat_natCast i
 rw [FA.cells] at q
 have hs : ((listL m ns).take i).map FA.cells ++ [[.sc (.int .i64 f.kind), .sc (.int .i64 f.state), .sc (.int .i64 f.input), .sc (.int .i64 f.to), .sc (.int .i64 f.at'), .sc (.int .i64 f.out)]] = ((listL m ns).take (i + 1)).map FA.cells := by rw [htk, List.map_append]; rfl
 have hLn2 := norefs_faL ((listL m ns).take (i + 1))
 have hLl2 : (((listL m ns).take (i + 1)).map FA.cells).length = i + 1 := by rw [List.length_map, List.length_take]; omega
 have hr2 : room (i + 1) 48 = true := by simp only [room_eq, decide_eq_true_eq]; omega
 have hne : (i + 1 == 0) = false := rfl
 obtain ⟨U, hU⟩ : ∃ U, U = ((listL m ns).take (i + 1)).map FA.cells := ⟨_, rfl⟩
 rw [← hU] at hs hLn2 hLl2
 refine EvC.k1D mixed ?_ (h1 := by simp only [go_sem, hnc, hit, hll, Mach.cells] <;> rfl) (k1 := by simp; try omega) (c1 := .ca q)
 refine EvC.a ?_
 refine EvC.ct ?_
 refine EvC.b ?_ (by simp only [go_sem, hs, hLl] <;> rfl) (by simp [hr2])
 refine EvC.b ?_ (hok := by exact inI64_of (by omega) (by omega))
 exact ⟨[(0, 0)], i + 1, rfl, (by rw [← hU]; simp only [go_sem, hLn2, hLl2, hne, Mach.cells, Int.natCast_add, Int.natCast_one] <;> rfl), hiK, by omega⟩
set_option maxRecDepth 100000
def exM : Mach := ⟨1, 2, false, [(false, [(1, 0)]), (false, [(0, 1)])]⟩
def exW : Mach := ⟨1, 2, false, [(false, [(1, 1)]), (false, [(0, 0)])]⟩
def xa : FA := ⟨0, 0, 0, 0, 0, 1⟩
def xb : FA := ⟨0, 1, 0, 0, 0, 0⟩
def xc : FA := ⟨1, 0, 0, 0, 0, 0⟩
def xd : FA := ⟨3, 0, 0, 1, 0, 0⟩
def xu : FA := ⟨2, 0, 0, 0, 0, 0⟩
def xv : FA := ⟨2, 1, 0, 0, 0, 0⟩
def xWs : List RW := [(false, [0], .unk), (false, [0, 0], .unk)]
def errB (e : Int) : AV := .tu [.ag [.sc (.int .i64 0), .sc (.int .i64 0), .sl true [] .zer], .sc (.int .i64 e)]
theorem ex_both1 : bothA exM (xa, xb) = .tu [.ag (mutF (mutF exM xa) xb).cells, .sc (.int .i64 0)] := by kernel_rfl
theorem ex_both1m : mutF (mutF exM xa) xb = exW := by kernel_rfl
theorem ex_both2 : bothA exM (xb, xa) = errB 1 := by kernel_rfl
theorem ex_both3 : bothA exM (xa, xc) = errB 1 := by kernel_rfl
theorem ex_srt : srtE (alF exM [0, 2]) = [xa, xu, xb, xv] := by kernel_rfl
theorem ex_all : allR exM [0, 2] 65536 = 0 := by kernel_rfl
theorem ex_check : checkM exM = 0 := by kernel_rfl
theorem ex_prs : prs [xa, xu, xb, xv] = [(xa, xb), (xa, xv), (xu, xb), (xu, xv)] := by kernel_rfl
theorem ex_pairsE (n : Int) (h0 : 0 ≤ n) (h1 : n ≤ 65536) : pairsE exM [0, 2] n = if n < 4 then 13 else 0 := by
 unfold pairsE
 rw [if_neg (by rw [ex_check]; simp), if_neg (by
  rintro (h | h | ⟨k, hk, h⟩)
  ·omega
  ·omega
  ·simp at hk; omega), if_neg (by rw [ex_all]; simp), ex_srt, ex_prs]
 rfl
theorem ex_pairs1 : pairsA exM [0, 2] 4 = .tu [.sl false ([(xa, xb), (xa, xv), (xu, xb), (xu, xv)].map prC) .full, .sc (.int .i64 0)] := by
 rw [pairsA, ex_pairsE 4 (by omega) (by omega), if_neg (by simp), ex_srt, ex_prs]; rfl
theorem ex_pairs2 : pairsA exM [0, 2] 3 = .tu [.sl true [] .unk, .sc (.int .i64 13)] := by
 rw [pairsA, ex_pairsE 3 (by omega) (by omega), if_pos (by omega), if_pos (by simp)]
theorem ex_eqs : equalsA exM [xa, xb, xc, xd] = .tu [.sl false ([false, false, false, true].map boolC) .full, .sc (.int .i64 0)] := by kernel_rfl
theorem ex_dist : distinctA exM [xa, xb, xc, xd, ⟨3, 1, 0, 0, 0, 0⟩] = .tu [.sl false ([0, 1, 1, 3, 3].map intC) .full, .sc (.int .i64 0)] := by kernel_rfl
theorem ex_least : leastA exM xWs [xa, xb, xc, xd] = .tu [.sl false ([1].map intC) .full, .sc (.int .i64 0)] := by kernel_rfl
theorem ex_sub1 : subsumesA exM xWs xa xb = .tu [.sc (.bool false), .sc (.int .i64 0)] := by kernel_rfl
theorem ex_sub2 : subsumesA exM xWs xb xa = .tu [.sc (.bool true), .sc (.int .i64 0)] := by kernel_rfl
theorem ex_sub3 : subsumesA exM xWs xb xc = .tu [.sc (.bool true), .sc (.int .i64 0)] := by kernel_rfl
theorem ex_sub4 : subsumesA exM xWs xd xa = .tu [.sc (.bool false), .sc (.int .i64 0)] := by kernel_rfl
set_option maxRecDepth 10000
abbrev fA (a b c d e f : Int) : List AV := [.sc (.int .i64 a), .sc (.int .i64 b), .sc (.int .i64 c), .sc (.int .i64 d), .sc (.int .i64 e), .sc (.int .i64 f)]
abbrev pA (a b c d e f a' b' c' d' e' f' : Int) : List AV := [.sc (.int .i64 a), .sc (.int .i64 b), .sc (.int .i64 c), .sc (.int .i64 d), .sc (.int .i64 e), .sc (.int .i64 f), .sc (.int .i64 a'), .sc (.int .i64 b'), .sc (.int .i64 c'), .sc (.int .i64 d'), .sc (.int .i64 e'), .sc (.int .i64 f')]
abbrev iA (a : Int) : List AV := [.sc (.int .i64 a)]
abbrev eA (a b : Int) : List AV := [.sc (.int .i64 a), .sc (.int .i64 b)]
abbrev exC : List AV := [.sc (.int .i64 1), .sc (.int .i64 2), .sl false [[.sl false [eA 1 0] .full], [.sl false [eA 0 1] .full]] .full]
abbrev wsC : AV := .sl false [[.sl false [iA 0] .full], [.sl false [iA 0, iA 0] .full]] .full
abbrev noC : List AV := [.sc (.int .i64 0), .sc (.int .i64 0), .sl true [] .zer]
theorem ex_rows : ∀ r ∈ exM.rows, r.2.length < 1000000 := by decide
theorem ex_noNil : NoNil exM := fun r hr h => by
 simp only [exM, List.mem_cons, List.not_mem_nil, or_false] at hr
 rcases hr with rfl | rfl <;> cases h
theorem ex_ws : ∀ w ∈ xWs, w.2.1.length < 1000000 := by decide
theorem ex_both1_is : PureIs prog 14 [.ag exC, .ag (pA 0 0 0 0 0 1 0 1 0 0 0 0)] (.tu [.ag [.sc (.int .i64 1), .sc (.int .i64 2), .sl false [[.sl false [eA 1 1] .unk], [.sl false [eA 0 0] .unk]] .unk], .sc (.int .i64 0)]) := by
 have q := pairBoth_is exM ex_rows ex_noNil (xa, xb)
 rw [ex_both1, ex_both1m] at q
 exact .weak q
theorem ex_both2_is : PureIs prog 14 [.ag exC, .ag (pA 0 1 0 0 0 0 0 0 0 0 0 1)] (.tu [.ag noC, .sc (.int .i64 1)]) := by
 have q := pairBoth_is exM ex_rows ex_noNil (xb, xa)
 rw [ex_both2] at q
 exact .weak q
theorem ex_both3_is : PureIs prog 14 [.ag exC, .ag (pA 0 0 0 0 0 1 1 0 0 0 0 0)] (.tu [.ag noC, .sc (.int .i64 1)]) := by
 have q := pairBoth_is exM ex_rows ex_noNil (xa, xc)
 rw [ex_both3] at q
 exact .weak q
abbrev exP : List (List AV) := [pA 0 0 0 0 0 1 0 1 0 0 0 0, pA 0 0 0 0 0 1 2 1 0 0 0 0, pA 2 0 0 0 0 0 0 1 0 0 0 0, pA 2 0 0 0 0 0 2 1 0 0 0 0]
theorem ex_pairs1_is : PureIs prog 11 [.ag exC, .sl false [iA 0, iA 2] .full, .sc (.int .i64 4)] (.tu [.sl false exP .full, .sc (.int .i64 0)]) := by
 have q := pairs_is exM ex_rows false [0, 2] .unk (by decide) 4
 rw [ex_pairs1] at q
 exact .weak q
theorem ex_pairs2_is : PureIs prog 11 [.ag exC, .sl false [iA 0, iA 2] .full, .sc (.int .i64 3)] (.tu [.sl true [] .unk, .sc (.int .i64 13)]) := by
 have q := pairs_is exM ex_rows false [0, 2] .unk (by decide) 3
 rw [ex_pairs2] at q
 exact .weak q
theorem ex_same_is : PureIs prog 16 [.ag [.sc (.int .i64 1), .sc (.int .i64 2), .sl false [[.sl false [eA 1 1] .unk], [.sl false [eA 0 0] .unk]] .unk], .ag [.sc (.int .i64 1), .sc (.int .i64 2), .sl false [[.sl false [eA 1 1] .full], [.sl false [eA 0 0] .full]] .full]] (.sc (.bool true)) := by
 have q := sameM_is (a := exW) (b := exW) rfl rfl rfl (by decide) (by decide)
 exact .weak q
theorem ex_pairsEq_is : PureIs prog 13 [.sl false exP .full, .sl false exP .full] (.sc (.bool true)) := by
 exact pairsEq_is false false [(xa, xb), (xa, xv), (xu, xb), (xu, xv)] .full (by decide)
abbrev exL : List (List AV) := [fA 0 0 0 0 0 1, fA 0 1 0 0 0 0, fA 1 0 0 0 0 0, fA 3 0 0 1 0 0]
theorem ex_eqs_is : PureIs prog 19 [.ag exC, .sl false exL .full] (.tu [.sl false [[.sc (.bool false)], [.sc (.bool false)], [.sc (.bool false)], [.sc (.bool true)]] .full, .sc (.int .i64 0)]) := by
 have q := equals19_is exM ex_rows ex_noNil false [xa, xb, xc, xd] .unk (by decide)
 rw [ex_eqs] at q
 exact .weak q
theorem ex_dist_is (c : Cp) : PureIs prog 20 [.ag exC, .sl false (exL ++ [fA 3 1 0 0 0 0]) c] (.tu [.sl false [iA 0, iA 1, iA 1, iA 3, iA 3] .full, .sc (.int .i64 0)]) := by
 have q := distinct_is exM ex_rows ex_noNil false [xa, xb, xc, xd, ⟨3, 1, 0, 0, 0, 0⟩] .unk (by decide)
 rw [ex_dist] at q
 exact .weak q
theorem ex_least_is : PureIs prog 26 [.ag exC, wsC, .sl false exL .full] (.tu [.sl false [iA 1] .full, .sc (.int .i64 0)]) := by
 have q := least_is exM ex_rows ex_noNil false xWs .unk ex_ws (by decide) false [xa, xb, xc, xd] .unk (by decide)
 rw [ex_least] at q
 exact .weak q
theorem ex_sub1_is : PureIs prog 38 [.ag exC, wsC, .ag (fA 0 0 0 0 0 1), .ag (fA 0 1 0 0 0 0)] (.tu [.sc (.bool false), .sc (.int .i64 0)]) := by
 have q := subsumes_is exM ex_rows ex_noNil false xWs .unk ex_ws (by decide) xa xb
 rw [ex_sub1] at q
 exact .weak q
theorem ex_sub2_is : PureIs prog 38 [.ag exC, wsC, .ag (fA 0 1 0 0 0 0), .ag (fA 0 0 0 0 0 1)] (.tu [.sc (.bool true), .sc (.int .i64 0)]) := by
 have q := subsumes_is exM ex_rows ex_noNil false xWs .unk ex_ws (by decide) xb xa
 rw [ex_sub2] at q
 exact .weak q
theorem ex_sub3_is : PureIs prog 38 [.ag exC, wsC, .ag (fA 0 1 0 0 0 0), .ag (fA 1 0 0 0 0 0)] (.tu [.sc (.bool true), .sc (.int .i64 0)]) := by
 have q := subsumes_is exM ex_rows ex_noNil false xWs .unk ex_ws (by decide) xb xc
 rw [ex_sub3] at q
 exact .weak q
theorem ex_sub4_is : PureIs prog 38 [.ag exC, wsC, .ag (fA 3 0 0 1 0 0), .ag (fA 0 0 0 0 0 1)] (.tu [.sc (.bool false), .sc (.int .i64 0)]) := by
 have q := subsumes_is exM ex_rows ex_noNil false xWs .unk ex_ws (by decide) xd xa
 rw [ex_sub4] at q
 exact .weak q
set_option maxHeartbeats 4000000 in
theorem lives_is : PureIs prog 12 [] (.sc (.bool true)) := by
 refine PureIs.of1 8 [9, 11, 12, 13, 15, 16, 17, 18, 19, 20, 21, 22, 23, 24, 25, 26, 27, 123, 201] func12 ntmps12 results12 fun _ => ?_
 refine EvC.a ?_
 refine EvC.a ?_
 refine EvC.z 7 ?_
 refine EvC.a ?_
 refine EvC.z 10 ?_
 refine EvC.a ?_
 refine EvC.z 13 ?_
 refine EvC.a ?_
 refine EvC.z 16 ?_
 refine EvC.a ?_
 refine EvC.z 19 ?_
 refine EvC.k1 ?_ (c1 := .ca ex_both1_is)
 refine EvC.z 29 ?_
 refine EvC.k1 ?_ (c1 := .ca ex_both2_is)
 refine EvC.k1 ?_ (c1 := .ca ex_both3_is)
 refine EvC.k1 ?_ (c1 := .ca ex_pairs1_is)
 refine EvC.k1 ?_ (c1 := .ca ex_pairs2_is)
 refine EvC.a ?_
 refine EvC.z 76 ?_
 refine EvC.a ?_
 refine EvC.z 79 ?_
 refine EvC.a ?_
 refine EvC.z 82 ?_
 refine EvC.seq ?_
 refine EvC.k2 ?_ (c1 := .cg ex_same_is) (c2 := .cg ex_pairsEq_is)
 refine EvC.cs ?_
 refine EvC.a ?_
 refine EvC.a ?_
 refine EvC.k1 ?_ (c1 := .ca ex_eqs_is)
 have hr5 : room 5 48 = true := by simp only [room_eq, decide_eq_true_eq]; omega
 refine EvC.k1D mixed ?_ (k1 := by simp [hr5]) (c1 := .ca (ex_dist_is _))
 refine EvC.k1 ?_ (c1 := .ca ex_least_is)
 refine EvC.seq ?_
 refine EvC.k2 ?_ (c1 := .cg (intsEq_is false false [0, 1, 1, 3, 3] .full (by decide))) (c2 := .cg (intsEq_is false false [1] .full (by decide)))
 refine EvC.cs ?_
 refine EvC.k1 ?_ (c1 := .ca ex_sub1_is)
 refine EvC.k1 ?_ (c1 := .ca ex_sub2_is)
 refine EvC.k1 ?_ (c1 := .ca ex_sub3_is)
 refine EvC.k1 ?_ (c1 := .ca ex_sub4_is)
 refine EvC.g ?_
 refine EvC.rz ?_
 simp only [go_sem]
theorem Valid.check {m : Mach} (h : Valid m) : checkM m = 0 := by
 have h1 := h.ins
 have h2 := h.outs
 have h3 := h.rows
 unfold checkM
 rw [if_neg (by omega), if_neg (by omega), if_pos]
 rw [List.all_eq_true]
 intro r hr
 obtain ⟨k1, k2⟩ := h.row r hr
 simp only [rowOk, Bool.and_eq_true, decide_eq_true_eq, Bool.not_eq_true', List.any_eq_false]
 exact ⟨k1, fun e he => by simpa using k2 e he⟩
theorem LM.small {x : LM} (h : x.Ok) : x.mach.rows.length ≤ 6 ∧ x.mach.ins ≤ 3 := by
 obtain ⟨b1, b2, b3, b4, b5, b6, -, -⟩ := LM.bounds h
 rw [show x.mach.rows.length = x.n by simp [LM.mach]]
 exact ⟨b2, by show (x.i : Int) ≤ 3; omega⟩
theorem LM.noNil (x : LM) : NoNil x.mach := fun r hr h => by
 simp only [LM.mach, List.mem_map] at hr
 obtain ⟨s, _, rfl⟩ := hr
 cases h
def rowsP (m : Mach) : List (List (Int × Int)) := m.rows.map (·.2)
def getP (P : List (List (Int × Int))) (s i : Nat) : Int × Int := (P[s]?.getD [])[i]?.getD (-1, -1)
def putP (P : List (List (Int × Int))) (s i : Nat) (e : Int × Int) : List (List (Int × Int)) := P.set s ((P[s]?.getD []).set i e)
theorem stepM_P (m : Mach) (s a : Int) : stepM m s a = getP (rowsP m) s.toNat a.toNat := by
 unfold stepM getP rowsP
 rw [List.getElem?_map]
theorem rowAt_P (m : Mach) (s : Int) : rowAt m s = (rowsP m)[s.toNat]?.getD [] := by
 unfold rowAt rowsP
 rw [List.getElem?_map]
theorem putR_P (m : Mach) (s i : Int) (e : Int × Int) : (putR m s i e).map (·.2) = putP (rowsP m) s.toNat i.toNat e := by
 unfold putR putP copyR
 rw [List.map_set, rowAt_P, List.map_map]; rfl
theorem getP_put {P : List (List (Int × Int))} {s i s' i' : Nat} {e : Int × Int} (h : s ≠ s' ∨ i ≠ i') : getP (putP P s i e) s' i' = getP P s' i' := by
 unfold getP putP
 by_cases hs : s = s'
 ·subst hs
  have hi : i ≠ i' := h.resolve_left fun h => h rfl
  by_cases hl : s < P.length
  ·rw [List.getElem?_set_self hl]
   simp only [Option.getD_some]
   rw [List.getElem?_set_ne hi]
  ·rw [List.set_eq_of_length_le (by omega)]
 ·rw [List.getElem?_set_ne hs]
theorem putP_comm {P : List (List (Int × Int))} {s i s' i' : Nat} {e e' : Int × Int} (h : s ≠ s' ∨ i ≠ i') : putP (putP P s i e) s' i' e' = putP (putP P s' i' e') s i e := by
 unfold putP
 by_cases hs : s = s'
 ·subst hs
  have hi : i ≠ i' := h.resolve_left fun h => h rfl
  by_cases hl : s < P.length
  ·rw [List.getElem?_set_self hl, List.getElem?_set_self hl]
   simp only [Option.getD_some]
   rw [List.set_set, List.set_set, List.set_comm _ _ hi]
  ·have hx : ∀ r, P.set s r = P := fun r => List.set_eq_of_length_le (by omega)
   simp only [hx]
 ·rw [List.getElem?_set_ne hs, List.getElem?_set_ne (fun h => hs h.symm), List.set_comm _ _ hs]
def edgeF (m : Mach) (f : FA) : Int × Int := if f.kind = 0 then ((stepM m f.state f.input).1, f.out) else if f.kind = 1 then (f.to, (stepM m f.state f.input).2) else (-1, -1)
theorem mutP (m : Mach) {f : FA} (h : 0 ≤ f.kind ∧ f.kind < 3) : rowsP (mutF m f) = putP (rowsP m) f.state.toNat f.input.toNat (edgeF m f) := by
 show (mutRows m f).map (·.2) = _
 unfold mutRows edgeF
 obtain h0 | h0 | h0 : f.kind = 0 ∨ f.kind = 1 ∨ f.kind = 2 := by omega
 ·rw [if_pos h0, if_pos h0, putR_P]
 ·rw [if_neg (by omega), if_pos h0, if_neg (by omega), if_pos h0, putR_P]
 ·rw [if_neg (by omega), if_neg (by omega), if_pos h0, if_neg (by omega), if_neg (by omega), putR_P]
theorem mutF_rows (m : Mach) {f : FA} (h : 0 ≤ f.kind ∧ f.kind < 3) : (mutF m f).rows.length = m.rows.length := by
 have := congrArg List.length (mutP m h)
 unfold rowsP putP at this
 rw [List.length_map, List.length_set, List.length_map] at this
 exact this
structure PairOk (m : Mach) (f g : FA) : Prop where
 okf : faultB m f = true
 okg : faultB m g = true
 fk : f.kind < 3
 gk : g.kind < 3
 lt : ltE f g = true
theorem faultB_place {m : Mach} {f : FA} (h : faultB m f = true) : (0 ≤ f.kind ∧ f.kind ≤ 4) ∧ (0 ≤ f.state ∧ f.state < m.rows.length) ∧ 0 ≤ f.input ∧ f.input < m.ins := by
 unfold faultB at h
 simp only [Bool.and_eq_true] at h
 obtain ⟨h1, h2, _⟩ := h
 obtain ⟨a, b, _⟩ := definedB_iff.1 h2
 have := plainB_kind h1
 exact ⟨by omega, a, b⟩
theorem PairOk.ne {m : Mach} {f g : FA} (h : PairOk m f g) : f.state.toNat ≠ g.state.toNat ∨ f.input.toNat ≠ g.input.toNat := by
 have h1 := faultB_place h.okf
 have h2 := faultB_place h.okg
 have h3 := ltE_iff.1 h.lt
 omega
theorem PairOk.ne' {m : Mach} {f g : FA} (h : PairOk m f g) : g.state.toNat ≠ f.state.toNat ∨ g.input.toNat ≠ f.input.toNat := by
 have := h.ne; omega
theorem step_mut {m : Mach} {f : FA} (h : 0 ≤ f.kind ∧ f.kind < 3) {s i : Int} (hn : f.state.toNat ≠ s.toNat ∨ f.input.toNat ≠ i.toNat) : stepM (mutF m f) s i = stepM m s i := by
 rw [stepM_P, mutP m h, getP_put hn, stepM_P]
theorem fault_mut {m : Mach} {f g : FA} (h : 0 ≤ f.kind ∧ f.kind < 3) (hg : 0 ≤ g.kind ∧ g.kind < 3) (hn : f.state.toNat ≠ g.state.toNat ∨ f.input.toNat ≠ g.input.toNat) : faultB (mutF m f) g = faultB m g := by
 have e1 : definedB (mutF m f) g.state g.input = definedB m g.state g.input := by
  unfold definedB
  rw [step_mut h hn, mutF_rows m h]; rfl
 have e2 : kindB (mutF m f) g = kindB m g := by
  unfold kindB
  rw [step_mut h hn, mutF_rows m h]
  obtain h0 | h0 | h0 : g.kind = 0 ∨ g.kind = 1 ∨ g.kind = 2 := by omega
  ·rw [if_pos h0, if_pos h0]; rfl
  ·rw [if_neg (by omega), if_pos h0, if_neg (by omega), if_pos h0]
  ·rw [if_neg (by omega), if_neg (by omega), if_pos h0, if_neg (by omega), if_neg (by omega), if_pos h0]
 unfold faultB
 rw [e1, e2]
theorem checkF_ok {m : Mach} {f : FA} (h : faultB m f = true) (hk : f.kind < 3) : checkF m f = 0 := by
 unfold checkF
 rw [if_pos h, if_neg (by omega)]
theorem PairOk.check {m : Mach} {f g : FA} (h : PairOk m f g) : checkF m f = 0 ∧ checkF m g = 0 ∧ checkF (mutF m f) g = 0 ∧ faultB (mutF m f) g = true ∧ faultB (mutF m g) f = true := by
 have hf := faultB_place h.okf
 have hg := faultB_place h.okg
 have fk := h.fk
 have gk := h.gk
 have h1 : faultB (mutF m f) g = true := by rw [fault_mut (by omega) (by omega) h.ne]; exact h.okg
 have h2 : faultB (mutF m g) f = true := by rw [fault_mut (by omega) (by omega) h.ne']; exact h.okf
 exact ⟨checkF_ok h.okf fk, checkF_ok h.okg gk, checkF_ok h1 gk, h1, h2⟩
theorem PairOk.same {m : Mach} {f g : FA} (h : PairOk m f g) : (mutF (mutF m f) g).rows.map (·.2) = (mutF (mutF m g) f).rows.map (·.2) := by
 have hf := faultB_place h.okf
 have hg := faultB_place h.okg
 have fk := h.fk
 have gk := h.gk
 show rowsP _ = rowsP _
 rw [mutP _ (by omega), mutP _ (by omega), mutP _ (by omega), mutP _ (by omega), putP_comm h.ne]
 have e1 : edgeF (mutF m f) g = edgeF m g := by unfold edgeF; rw [step_mut (by omega) h.ne]
 have e2 : edgeF (mutF m g) f = edgeF m f := by unfold edgeF; rw [step_mut (by omega) h.ne']
 rw [e1, e2]
theorem fOf_nil {m : Mach} (hv : Valid m) (n : Int) (hA : allF m allK = []) :
  PureIs prog 48 [.ag [.sc (.int .u16 n)], .ag m.cells] (.tu [.ag [.sc (.int .i64 0), .sc (.int .i64 0), .sc (.int .i64 0), .sc (.int .i64 0), .sc (.int .i64 0), .sc (.int .i64 0)], .sc (.bool false)]) := by
 have q := all48_is hv false allK .full (by decide)
 rw [hA, show allK.map intC = [[.sc (.int .i64 0)], [.sc (.int .i64 1)], [.sc (.int .i64 2)], [.sc (.int .i64 3)], [.sc (.int .i64 4)]] from rfl] at q
 simp only [List.map_nil, List.isEmpty_nil] at q
 refine PureIs.of1 7 [12] func48 ntmps48 results48 fun _ => ?_
 refine EvC.a ?_ (by simp only [go_sem, Mach.cells] <;> rfl)
 refine EvC.z 0 ?_
 refine EvC.z 1 ?_
 refine EvC.k1 ?_ (h1 := by simp only [go_sem, Mach.cells] <;> rfl) (c1 := .ca q)
 refine EvC.seq ?_
 refine EvC.a ?_
 refine EvC.ct ?_
 refine EvC.a ?_
 refine EvC.rz ?_
 simp only [go_sem]
set_option maxHeartbeats 4000000 in
theorem list18_nil {m : Mach} (hv : Valid m) (nl : Bool) (ns : List Int) (c : Cp) (hl : (ns.length : Int) ≤ 140737488355328) (hA : allF m allK = []) :
  PureIs prog 18 [.ag m.cells, .sl nl (ns.map u16C) c] (.sl true [] .unk) := by
 have hll : (ns.map u16C).length = ns.length := List.length_map _
 refine PureIs.of1 3 [4, 5, 6, 7, 8, 16, 29] func18 ntmps18 results18 fun _ => ?_
 refine EvC.a ?_ (by simp only [go_sem, Mach.cells] <;> rfl)
 refine EvC.z 0 ?_
 refine EvC.a ?_
 refine EvC.seq ?_
 refine EvC.a ?_
 refine EvC.block ?_
 obtain ⟨K, hK⟩ : ∃ K, K = min 12 ns.length := ⟨_, rfl⟩
 refine EvC.loopS (σ := Nat) (fun i => ⟨[(1, .sl nl (ns.map u16C) c), (2, .ia m.cells), (5, .tl 0 0 true), (6, .sc (.int .i64 i))], [], [(0, .arr 6 [] true)], 1⟩) (fun i => K - i) (fun i => i ≤ K) [1, 2, 5, 6] 1 ?_ ?_
 ·exact ⟨[(2, 0)], 0, rfl, (by simp only [go_sem, Mach.cells, Int.natCast_zero] <;> rfl), Nat.zero_le _⟩
 intro i hi
 refine EvC.seq ?_
 by_cases hiK : i < K
 rotate_left
 ·obtain rfl : i = K := by omega
  by_cases h1 : i < ns.length
  ·have d1 : decide ((i : Int) < ns.length) = true := decide_eq_true (by omega)
   have d2 : decide ((i : Int) < 12) = false := decide_eq_false (by omega)
   refine EvC.g ?_ (h := by simp only [go_sem, hll, d1, d2] <;> rfl)
   refine EvC.cf ?_
   refine EvC.exit ?_
   refine EvC.frz 0 (by simp only [go_sem] <;> rfl) ?_
   refine EvC.a ?_
   refine EvC.rz ?_
   simp only [go_sem]
  ·have d1 : decide ((i : Int) < ns.length) = false := decide_eq_false (by omega)
   refine EvC.g ?_ (h := by simp only [go_sem, hll, d1] <;> rfl)
   refine EvC.cf ?_
   refine EvC.exit ?_
   refine EvC.frz 0 (by simp only [go_sem] <;> rfl) ?_
   refine EvC.a ?_
   refine EvC.rz ?_
   simp only [go_sem]
 have d1 : decide ((i : Int) < ns.length) = true := decide_eq_true (by omega)
 have d2 : decide ((i : Int) < 12) = true := decide_eq_true (by omega)
 refine EvC.g ?_ (h := by simp only [go_sem, hll, d1, d2] <;> rfl)
 refine EvC.cr ?_
 refine EvC.seq ?_
 refine EvC.block ?_
 have hil : i < ns.length := by omega
 have he : ns[i]? = some (ns[i]'hil) := List.getElem?_eq_getElem hil
 generalize ns[i]'hil = n at he
 have q := fOf_nil hv n hA
 have hnc : (ns.map u16C)[i]? = some [.sc (.int .u16 n)] := by rw [List.getElem?_map, he]; rfl
 have hit : (i : Int).toNat = i := Int.toNat_natCast i
 refine EvC.k1D mixed ?_ (h1 := by simp only [go_sem, hnc, hit, hll, Mach.cells] <;> rfl) (k1 := by simp; try omega) (c1 := .ca q)
 refine EvC.a ?_
 refine EvC.cs ?_
 refine EvC.b ?_ (hok := by exact inI64_of (by omega) (by omega))
 exact ⟨[(0, 0)], i + 1, rfl, (by simp only [go_sem, Mach.cells, Int.natCast_add, Int.natCast_one] <;> rfl), hiK, by omega⟩
def listA (m : Mach) (ns : List Int) : List FA := if allF m allK = [] then [] else listL m ns
theorem listA_is {m : Mach} (hv : Valid m) (nl : Bool) (ns : List Int) (c : Cp) (hns : ∀ n ∈ ns, 0 ≤ n ∧ n < 65536) (hl : (ns.length : Int) ≤ 140737488355328) :
  PureIs prog 18 [.ag m.cells, .sl nl (ns.map u16C) c] (.sl (listA m ns).isEmpty ((listA m ns).map FA.cells) .unk) := by
 unfold listA
 split
 ·rename_i h
  exact list18_nil hv nl ns c hl h
 ·rename_i h
  exact list18_is hv nl ns c hns hl (List.length_pos_iff.2 h)
theorem listA_ok {m : Mach} {ns : List Int} : (listA m ns).length ≤ 12 ∧ ∀ f ∈ listA m ns, faultB m f = true := by
 unfold listA
 split
 ·exact ⟨Nat.zero_le _, fun f h => by cases h⟩
 ·rename_i h
  have h2 : 0 < (allF m allK).length := List.length_pos_iff.2 h
  refine ⟨by rw [listL, List.length_map, List.length_take]; omega, fun f hf => ?_⟩
  unfold listL at hf
  obtain ⟨n, _, rfl⟩ := List.mem_map.1 hf
  unfold pickN
  have h3 : (n % ((allF m allK).length : Int)).toNat < (allF m allK).length := by
   have h4 : n % ((allF m allK).length : Int) < (allF m allK).length := Int.emod_lt_of_pos _ (by omega)
   have h5 : 0 ≤ n % ((allF m allK).length : Int) := Int.emod_nonneg _ (by omega)
   omega
  rw [List.getD_eq_getElem?_getD, List.getElem?_eq_getElem h3]
  exact faK_mem (List.getElem_mem h3)
theorem bothR_zero {a b : Mach} (ha : Valid a) (hb : Valid b) (hab : a.ins = b.ins) : bothR a b = 0 := by
 unfold bothR
 simp [ha.check, hb.check, hab]
theorem eqM_none {a b : Mach} (ha : Valid a) (hb : Valid b) (hab : a.ins = b.ins) : eqM a b = (diffO a b).isNone := by simp only [eqM, equalR, bothR_zero ha hb hab]; simp
theorem eqM_iff {a b : Mach} (ha : Valid a) (hb : Valid b) (hab : a.ins = b.ins) : eqM a b = true ↔ ∀ v, WOk a.ins.toNat v → runR a 0 v = runR b 0 v := by
 rw [eqM_none ha hb hab]
 rcases diff_least ha hb hab with ⟨h1, h2⟩ | ⟨h1, _, h2⟩
 ·constructor
  ·intro h
   cases hd : diffO a b <;> simp [hd] at h h1
  ·intro h
   exact absurd (h _ h2.1) h2.2.1
 ·rw [h1]
  exact ⟨fun _ => h2, fun _ => rfl⟩
structure MutsOk (m : Mach) (fs : List FA) : Prop where
 v : Valid m
 r : m.rows.length < 64
 b : ∀ f ∈ fs, faultB m f = true
 n : fs.length ≤ 256
theorem MutsOk.check {m : Mach} {fs : List FA} (h : MutsOk m fs) {f : FA} (hf : f ∈ fs) : checkF m f = 0 := by
 have := h.r
 unfold checkF
 rw [if_pos (h.b f hf), if_neg (by omega)]
theorem MutsOk.mv {m : Mach} {fs : List FA} (h : MutsOk m fs) {f : FA} (hf : f ∈ fs) : Valid (mutF m f) := mutF_valid h.v (h.check hf)
theorem errFs_ok {m : Mach} : ∀ {fs : List FA}, (∀ f ∈ fs, checkF m f = 0) → errFs m fs = 0
 | [], _ => rfl
 | f :: fs, h => by
   rw [errFs, if_pos (h f List.mem_cons_self)]
   exact errFs_ok fun g hg => h g (List.mem_cons_of_mem _ hg)
theorem MutsOk.err {m : Mach} {fs : List FA} (h : MutsOk m fs) : mutErr m fs = 0 := by
 have := h.n
 unfold mutErr
 rw [if_neg (by rw [h.v.check]; simp), if_neg (by omega), errFs_ok fun f hf => h.check hf]
theorem MutsOk.eq {m : Mach} {fs : List FA} (h : MutsOk m fs) {f g : FA} (hf : f ∈ fs) (hg : g ∈ fs) : eqM (mutF m f) (mutF m g) = true ↔ ∀ v, WOk m.ins.toNat v → runR (mutF m f) 0 v = runR (mutF m g) 0 v := eqM_iff (h.mv hf) (h.mv hg) rfl
theorem MutsOk.eq0 {m : Mach} {fs : List FA} (h : MutsOk m fs) {f : FA} (hf : f ∈ fs) : eqM m (mutF m f) = true ↔ ∀ v, WOk m.ins.toNat v → runR m 0 v = runR (mutF m f) 0 v := eqM_iff h.v (h.mv hf) rfl
def eqF (m : Mach) (f g : FA) : Bool := (diffO (mutF m f) (mutF m g)).isNone
theorem MutsOk.eqF {m : Mach} {fs : List FA} (h : MutsOk m fs) {f g : FA} (hf : f ∈ fs) (hg : g ∈ fs) : Avl.eqF m f g = eqM (mutF m f) (mutF m g) := (eqM_none (h.mv hf) (h.mv hg) rfl).symm
theorem MutsOk.refl {m : Mach} {fs : List FA} (h : MutsOk m fs) {f : FA} (hf : f ∈ fs) : Avl.eqF m f f = true := by
 rw [h.eqF hf hf, h.eq hf hf]; exact fun _ _ => rfl
theorem fstM_idx (p : Mach → Bool) : ∀ l : List Mach, fstM p l = l.findIdx p
 | [] => rfl
 | x :: l => by
   rw [fstM, List.findIdx_cons, fstM_idx p l]
   cases p x <;> rfl
theorem MutsOk.cls {m : Mach} {fs : List FA} (h : MutsOk m fs) {i : Nat} (hi : i < fs.length) : ∃ k : Nat, k ≤ i ∧ distF (fs.map (mutF m)) i = k ∧ ((fs.findIdx fun g => Avl.eqF m g fs[i] : Nat) : Int) = k ∧ ∃ hk : k < fs.length, eqM (mutF m fs[k]) (mutF m fs[i]) = true := by
 have hm := List.getElem_mem hi
 have hr := h.refl hm
 have hlt : (fs.findIdx fun g => Avl.eqF m g fs[i]) < fs.length := List.findIdx_lt_length_of_exists ⟨_, hm, hr⟩
 obtain ⟨k, hk⟩ : ∃ k, k = fs.findIdx fun g => Avl.eqF m g fs[i] := ⟨_, rfl⟩
 rw [← hk] at hlt
 have hki : k ≤ i := by
  rcases Nat.lt_or_ge i k with h1 | h1
  ·rw [hk] at h1
   have := List.not_of_lt_findIdx h1
   rw [hr] at this; cases this
  ·exact h1
 have hek : Avl.eqF m fs[k] fs[i] = true := by
  have := List.findIdx_getElem (p := fun g => Avl.eqF m g fs[i]) (xs := fs) (w := by rw [← hk]; exact hlt)
  simp only [← hk] at this
  exact this
 have hkm := List.getElem_mem hlt
 have hbe : ∀ j (hj : j < k), Avl.eqF m (fs[j]'(by omega)) fs[i] = false := fun j hj => by
  have := List.not_of_lt_findIdx (p := fun g => Avl.eqF m g fs[i]) (xs := fs) (i := j) (by rw [← hk]; exact hj)
  simpa using this
 refine ⟨k, hki, ?_, by rw [hk], hlt, by rw [← h.eqF hkm hm]; exact hek⟩
 have hat : atM (fs.map (mutF m)) i = mutF m fs[i] := by
  unfold atM
  rw [List.getD_eq_getElem?_getD, Int.toNat_natCast, List.getElem?_map, List.getElem?_eq_getElem hi]; rfl
 unfold distF
 rw [hat, fstM_idx]
 congr 1
 by_cases hki2 : k < i
 ·rw [List.findIdx_eq (by simp; omega)]
  refine ⟨?_, fun j hj => ?_⟩
  ·rw [List.getElem_take, List.getElem_map, ← h.eqF hkm hm]; exact hek
  ·rw [List.getElem_take, List.getElem_map, ← h.eqF (List.getElem_mem _) hm]; exact hbe j hj
 ·obtain rfl : k = i := by omega
  rw [List.findIdx_eq_length_of_false]
  ·simp; omega
  ·intro x hx
   rw [List.mem_take_iff_getElem] at hx
   obtain ⟨j, hj, rfl⟩ := hx
   rw [List.getElem_map, ← h.eqF (List.getElem_mem _) hm]
   exact hbe j (by omega)
theorem MutsOk.dist {m : Mach} {fs : List FA} (h : MutsOk m fs) : distL (fs.map (mutF m)) = dR (Avl.eqF m) fs := by
 unfold distL dR
 rw [List.length_map]
 apply List.ext_getElem
 ·simp
 intro i h1 h2
 have hi : i < fs.length := by simpa using h2
 obtain ⟨k, _, e1, e2, _⟩ := h.cls hi
 rw [List.getElem_map, List.getElem_range, List.getElem_map, e1, e2]
theorem LM.muts {x : LM} (hx : x.Ok) (ns : List Int) : MutsOk x.mach (listA x.mach ns) := by
 obtain ⟨h6, h3⟩ := LM.small hx
 exact ⟨LM.valid hx, by omega, listA_ok.2, by have := (listA_ok (m := x.mach) (ns := ns)).1; omega⟩
set_option maxHeartbeats 4000000 in
theorem ordersEquals_is {x : LM} (hx : x.Ok) (nl : Bool) (ns : List Int) (c : Cp) (hns : ∀ n ∈ ns, 0 ≤ n ∧ n < 65536) (hl : (ns.length : Int) ≤ 140737488355328) :
  PureIs prog 4 [.ag x.cells, .sl nl (ns.map u16C) c] (.sc (.bool true)) := by
 have hv := LM.valid hx
 obtain ⟨h6, h3⟩ := LM.small hx
 have hnn := LM.noNil x
 have hmo := mOf_is hx
 have hM := LM.muts hx ns
 rw [LM.cells] at hmo ⊢
 generalize x.mach = m at hv h6 h3 hnn hmo hM
 have hms := hv.small
 have q0 := listA_is hv nl ns c hns hl
 have h12 := (listA_ok (m := m) (ns := ns)).1
 generalize listA m ns = L at q0 hM h12
 have q1 := equals19_is m hms hnn L.isEmpty L .unk (by omega)
 have q2 := distinct_is m hms hnn L.isEmpty L .unk (by omega)
 unfold equalsA at q1
 unfold distinctA at q2
 rw [if_neg (by rw [hM.err]; simp)] at q1 q2
 rw [hM.dist] at q2
 have q3 := refDistinct_is L.isEmpty L .unk (by omega) (eqF m) (fun f hf g hg => refEqual_is hv f g (hM.b f hf) (hM.b g hg) (hM.mv hf) (hM.mv hg) rfl) (fun f hf => hM.refl hf)
 have q4 := intsEq_is L.isEmpty L.isEmpty (dR (eqF m) L) .unk (by rw [dR, List.length_map]; omega)
 have hLn := norefs_faL L
 have hLl : (L.map FA.cells).length = L.length := List.length_map _
 have hEl : ((equalsL m (L.map (mutF m))).map boolC).length = L.length := by simp [equalsL]
 have hEn := norefs_bools (equalsL m (L.map (mutF m)))
 have hDl : ((dR (eqF m) L).map intC).length = L.length := by simp [dR]
 have hDn := norefs_intC (dR (eqF m) L)
 obtain ⟨E, hE⟩ : ∃ E, E = (equalsL m (L.map (mutF m))).map boolC := ⟨_, rfl⟩
 obtain ⟨D, hD⟩ : ∃ D, D = (dR (eqF m) L).map intC := ⟨_, rfl⟩
 rw [← hE] at q1 hEl hEn
 rw [← hD] at q2 q3 q4 hDl hDn
 have hEi : ∀ i (h : i < L.length), E[i]? = some [.sc (.bool (eqM m (mutF m L[i])))] := fun i h => by
  rw [hE, equalsL, List.map_map, List.map_map, List.getElem?_map, List.getElem?_eq_getElem h]; rfl
 have hDi : ∀ i (h : i < L.length), ∃ k : Nat, k ≤ i ∧ D[i]? = some [.sc (.int .i64 (k : Int))] ∧ ∃ hk : k < L.length, eqM m (mutF m L[k]) = eqM m (mutF m L[i]) := fun i h => by
  obtain ⟨k, k1, _, k2, k3, k4⟩ := hM.cls h
  refine ⟨k, k1, ?_, k3, ?_⟩
  ·rw [hD, dR, List.map_map, List.getElem?_map, List.getElem?_eq_getElem h]
   simp only [Option.map_some, Function.comp, k2]; rfl
  ·have a := List.getElem_mem k3
   have b := List.getElem_mem h
   rw [Bool.eq_iff_iff, hM.eq0 a, hM.eq0 b]
   rw [hM.eq a b] at k4
   exact ⟨fun h v hv => (h v hv).trans (k4 v hv), fun h v hv => (h v hv).trans (k4 v hv).symm⟩
 rw [Mach.cells] at hmo q0 q1 q2 q3
 refine PureIs.of1 3 [4, 5, 6, 7, 8, 9, 10, 11, 56, 60, 87] func4 ntmps4 results4 fun _ => ?_
 refine EvC.a ?_
 refine EvC.z 0 ?_
 refine EvC.k1 ?_ (c1 := .ca hmo)
 refine EvC.z 4 ?_
 refine EvC.k1 ?_ (c1 := .ca q0) (h2 := by simp only [go_sem, hLn] <;> rfl)
 refine EvC.k1 ?_ (c1 := .ca q1) (h2 := by simp only [go_sem, hEn] <;> rfl) (k2 := by simp [hEn])
 refine EvC.k1 ?_ (c1 := .ca q2) (h2 := by simp only [go_sem, hDn] <;> rfl) (k2 := by simp [hDn])
 refine EvC.seq ?_
 refine EvC.k2 ?_ (h1 := by simp only [go_sem, hEl, hLl, hDn, hLn, hEn] <;> rfl) (k1 := by simp [hEl]) (c1 := .cg q3) (h2 := by simp only [go_sem, hEl, hLl, hDn, hLn, hEn] <;> rfl) (k2 := by simp [hEl]) (c2 := .cg q4)
 refine EvC.cs ?_
 refine EvC.seq ?_
 refine EvC.a ?_
 refine EvC.block ?_
 refine EvC.loopS (σ := Nat) (fun i => ⟨[(5, .ia [.sc (.int .i64 m.ins), .sc (.int .i64 m.outs), .sl m.nl (m.rows.map rowC) .unk]), (6, .sl L.isEmpty (L.map FA.cells) .unk), (7, .sl L.isEmpty E .full), (9, .sl L.isEmpty D .full), (11, .sc (.int .i64 i))], [], [], 0⟩) (fun i => L.length - i) (fun i => i ≤ L.length) [5, 6, 7, 9, 11] 0 ?_ ?_
 ·exact ⟨[], 0, rfl, (by simp only [go_sem, Int.natCast_zero] <;> rfl), Nat.zero_le _⟩
 intro i hi
 refine EvC.seq ?_
 refine EvC.a ?_ (by simp only [go_sem, hLl] <;> rfl)
 refine EvC.cond (by simp only [go_sem] <;> rfl) (fun hc => ?_) (fun hc => ?_)
 rotate_left
 ·refine EvC.exit ?_
  refine EvC.k1 ?_ (c1 := .ca lives_is)
  refine EvC.rz ?_
  simp only [go_sem]
 have hil : i < L.length := by simpa using hc
 clear hc
 have he : L[i]? = some (L[i]'hil) := List.getElem?_eq_getElem hil
 have hfm := List.getElem_mem hil
 have e1 := hEi i hil
 obtain ⟨k, k1, e2, k2, k3⟩ := hDi i hil
 have e3 := hEi k k2
 rw [k3] at e3
 have q5 := refEquivalent_is hv L[i] (hM.b _ hfm) (hM.mv hfm) rfl
 rw [← eqM_none hv (hM.mv hfm) rfl] at q5
 generalize eqM m (mutF m L[i]) = b at e1 e3 k3 q5
 generalize L[i]'hil = f at he q5
 have hfc : (L.map FA.cells)[i]? = some f.cells := by rw [List.getElem?_map, he]; rfl
 have hit : (i : Int).toNat = i := Int.toNat_natCast i
 have hkt : (k : Int).toNat = k := Int.toNat_natCast k
 rw [FA.cells] at hfc
 simp only [FA.cells, Mach.cells] at q5
 have hbb : (b == b) = true := by cases b <;> rfl
 refine EvC.skip ?_
 refine EvC.seq ?_
 refine EvC.block ?_
 refine EvC.k1D mixed ?_ (h1 := by simp only [go_sem, hfc, hit, hkt, hLl, hEl, hDl, e1, e2, e3, hbb] <;> rfl) (k1 := by simp; try omega) (c1 := .ca q5) (h2 := by simp only [go_sem, e1, e2, e3, hit, hkt, hbb, hEl, hDl] <;> rfl) (k2 := by simp; try omega)
 refine EvC.cs ?_
 refine EvC.b ?_ (hok := by exact inI64_of (by omega) (by omega))
 exact ⟨[], i + 1, rfl, (by simp only [go_sem, Int.natCast_add, Int.natCast_one] <;> rfl), hil, by omega⟩
end Go.Avl
