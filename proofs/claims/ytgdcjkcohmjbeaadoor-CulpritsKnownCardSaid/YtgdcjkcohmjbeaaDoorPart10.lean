/-
  Lemmas.
  From a law's row to its contract: arguments opened, and read again behind the call.
  How the arguments of the culprits' laws read, and the table of the kinds of faults.
-/
import Derived.ProofKit
import Derived.OpenShut
import Derived.Test.YtgdcjkcohmjbeaaDoorCards
import Derived.Test.YtgdcjkcohmjbeaaDoorTie
import Derived.LaidMore
import Derived.Stop.Joined
import Derived.Test.YtgdcjkcohmjbeaaDoorPart9
set_option linter.unusedSimpArgs false
set_option linter.unusedVariables false
set_option linter.unnecessarySimpa false
set_option linter.deprecated false
namespace Go.Avl
open Go Go.Proofs.Tryd
set_option maxRecDepth 10000
def ringC (s : Nat) : List AV := [.sl false [[.sc (.int .i64 (((s : Int) + 1) % 16)), .sc (.int .i64 ((s : Int) / 15))]] .full]
@[go_sem] theorem norefs_ring (l : List Nat) : (l.map ringC).all AV.norefs = true := by simp [List.all_eq_true, ringC, AV.norefs, AV.noref]
theorem PureIs.frBad {P : Program} {f : FuncId} {args : List AV} {v : Value} {c : Cp} (h : PureIs P f args (.tu [.sl true [] c, .sc v])) : PureFr P f args (.tu [.sl true [] c, .sc v]) :=
 ⟨h.1, fun F w vals hF hi => (h.2 F w vals hF hi).mono fun _ w' ⟨u, F', he, hv, g⟩ => by
  have hu : Imm (fun b o => F' b o ∧ w.heap.size ≤ b) w' u (.tu [.sl true [] c, .sc v]) := by
   cases hv with
   | tu vs cs hl hvs =>
     refine .tu vs _ hl fun i h1 h2 => ?_
     have := hvs i h1 h2
     match i, h2 with
     | 0, _ =>
       have this : Imm F' w' vs[0] (.sl true [] c) := this
       show Imm _ _ vs[0] (.sl true [] c)
       generalize vs[0] = z at this
       cases this with
       | nil _ hc => exact .nil _ hc
     | 1, _ =>
       have this : Imm F' w' vs[1] (.sc v) := this
       show Imm _ _ vs[1] (.sc v)
       generalize vs[1] = z at this
       cases this with
       | sc _ => exact .sc _
  exact ⟨u, fun b o => F' b o ∧ w.heap.size ≤ b, he, hu, fun b o h => ⟨h.2, g.inF b o h.1⟩,
   ⟨g.size, g.old, fun b o h => .inl h, fun b o h => h.elim .inl fun h => .inr h.2, fun b o h => h.elim (fun h => Nat.lt_of_lt_of_le (hF.1 b o h) g.size) fun h => g.inF b o h.1, g.kept⟩⟩⟩
theorem ring_unk (k : Nat) : AV.unkss ((List.range k).map ringC) = ((List.range k).map ringRow).map rowC := by
 induction List.range k with
 | nil => rfl
 | cons s l ih =>
   simp only [List.map_cons]
   rw [← ih]; rfl
theorem walkProg {m : Mach} (va : Valid m) {fs : List FA} (hfv : ∀ f ∈ fs, checkF m f = 0) (hN : 1 ≤ fs.length) (hN2 : fs.length ≤ 256) {iN : Nat} {f : FA} (hfi : fs[iN]? = some f) : ∃ (b : Bool) (A : List (List AV)),
  PureIs prog 24 [.sl false ((diagL (fs.map (mutF m)) fs.length).map ndC) .full, .ag (mutF m f).cells] (.tu [.sl false ((clsF (fs.map (mutF m)) fs.length iN).map intC) .full, .sl b A .full, .sc (.int .i64 0)]) ∧ A.all AV.norefs = true := by
 have hX := xok_of va hfv
 have hil := (List.getElem?_eq_some_iff.1 hfi).1
 have hfm := List.mem_of_getElem? hfi
 have hMi : atM (fs.map (mutF m)) (iN : Int) = mutF m f := by
  rw [atM, Int.toNat_natCast, List.getD_eq_getElem?_getD, List.getElem?_map, hfi]; rfl
 obtain ⟨S, n, A, B, hW⟩ := walk_ok hX hN (i := (iN : Int)) (by omega)
 have hval := diagL_valid hX hN va.ins
 have hTl := (diagL_inv hX hN).1.len
 have hnode : ∀ d ∈ diagL (fs.map (mutF m)) fs.length, NGok (ndG d) ∧ NGnil (ndG d) := fun d hd => by
  obtain ⟨j, hj, rfl⟩ := List.getElem_of_mem hd
  exact node_ok hX hN (by omega) (List.getElem?_eq_getElem hj)
 have hmv : Valid (mutF m f) := mutF_valid va (hfv f hfm)
 obtain ⟨w1, w2, w3, w4, ⟨d, w5, w5'⟩, w6, w7⟩ := hW
 rw [hMi] at w2
 generalize diagL (fs.map (mutF m)) fs.length = T at hval hTl hnode w2 w5 w6 ⊢
 have hTn : (T.map ndG).map NG.nd = T := by rw [List.map_map, show NG.nd ∘ ndG = id from funext ndG_nd, List.map_id]
 have hTc : (T.map ndG).map ngC = T.map ndC := by rw [List.map_map, show ngC ∘ ndG = ndC from funext ndG_cells]
 have q3 := walk_is false (T.map ndG) .full (mutF m f) hmv.small (fun d hd => by obtain ⟨e, he, rfl⟩ := List.mem_map.1 hd; exact hnode e he) (by rw [List.length_map]; omega)
 rw [hTc] at q3
 rw [walkA, if_neg (by rw [hmv.check]; simp), hTn, if_neg (by rw [show (mutF m f).ins = m.ins from rfl, hval]; simp), List.length_map, w2] at q3
 have hg2 : (T.map ndG)[n]? = some (ndG d) := by rw [List.getElem?_map, w5]; rfl
 simp only [hg2] at q3
 rw [show (ndG d).s.1 = false from rfl, show (ndG d).s.2.1 = d.sus from rfl, w5', w1] at q3
 exact ⟨_, _, q3, norefs_ask A⟩
set_option maxHeartbeats 8000000 in
theorem culpritsKnown_is : PureIs prog 9 [] (.sc (.bool true)) := by
 have q9 := lives_is
 refine PureIs.of1 6 [7, 8, 9, 10, 11, 13, 14, 15, 18, 45, 56, 61, 80, 84, 114] func9 ntmps9 results9 fun _ => ?_
 refine EvC.a ?_
 refine EvC.a ?_
 refine EvC.seq ?_
 refine EvC.a ?_
 refine EvC.ownC 2 2 1 (by simp only [go_sem] <;> rfl) ?_
 refine EvC.thaw 5 (by simp only [go_sem] <;> rfl) ?_
 refine EvC.block ?_
 refine EvC.loopS (σ := Nat) (fun i => ⟨[(1, .rf 0 0), (2, .sc (.int .i64 i))], [], [(1, .arr 1 ((List.range i).map ringC) false), (0, .cells [.sc (.int .i64 1), .sc (.int .i64 2), .tl 1 i (decide (i = 0))])], 2⟩) (fun i => 16 - i) (fun i => i ≤ 16) [1, 2] 2 ?_ ?_
 ·exact ⟨[(5, 1), (2, 0)], 0, rfl, (by simp only [go_sem, Int.natCast_zero, List.range_zero, List.map_nil, List.length_nil] <;> rfl), Nat.zero_le _⟩
 intro i hi
 refine EvC.seq ?_
 refine EvC.a ?_
 by_cases hil : i < 16
 ·refine EvC.cr ?_ (by simp only [go_sem, decide_eq_true (show (i : Int) < 16 by omega)] <;> rfl)
  refine EvC.seq ?_
  refine EvC.block ?_
  have hrl : ((List.range i).map ringC).length = i := by simp
  have hsn : (List.range i).map ringC ++ [[.sl false [[.sc (.int .i64 (((i : Int) + 1) % 16)), .sc (.int .i64 ((i : Int) / 15))]] .full]] = (List.range (i + 1)).map ringC := by rw [List.range_succ, List.map_append]; rfl
  have hr : room (i + 1) 24 = true := by simp only [room_eq, decide_eq_true_eq]; omega
  have h1 : inI64 ((i : Int) + 1) = true := inI64_of (by omega) (by omega)
  have h2 : inI64 (((i : Int) + 1) % 16) = true := inI64_of (by omega) (by omega)
  have h3 : inI64 ((i : Int) / 15) = true := inI64_of (by omega) (by omega)
  refine EvC.b ?_ (by simp only [go_sem, hrl, hsn] <;> rfl) (by simp [hr, h1, h2, h3]; omega)
  refine EvC.b ?_ (hok := by exact inI64_of (by omega) (by omega))
  exact ⟨[(1, 1), (0, 0)], i + 1, rfl, (by simp only [go_sem, decide_eq_false (show ¬ i + 1 = 0 by omega), Int.natCast_add, Int.natCast_one] <;> rfl), hil, by omega⟩
 refine EvC.cf ?_ (by simp only [go_sem, decide_eq_false (show ¬ (i : Int) < 16 by omega)] <;> rfl)
 refine EvC.exit ?_
 obtain rfl : i = 16 := by omega
 have hdl : ((List.range 16).map ringC).length = 16 := rfl
 have hrn := norefs_ring (List.range 16)
 have hwk : ∀ (f : FuncId) (xs : List AV) (r : AV), PureIs prog f (.ag ringM.cells :: xs.map AV.unk) r → PureIs prog f (.ag [.sc (.int .i64 1), .sc (.int .i64 2), .sl false ((List.range 16).map ringC) .unk] :: xs) r := fun f xs r h => .weak (by
  rw [List.map_cons]
  have e : AV.unk (.ag [.sc (.int .i64 1), .sc (.int .i64 2), .sl false ((List.range 16).map ringC) .unk]) = .ag ringM.cells := by
   simp only [AV.unk, AV.unks, ring_unk]; rfl
  rw [e]; exact h)
 generalize (List.range 16).map ringC = RC at hdl hrn hwk
 refine EvC.frzD 1 (by simp only [go_sem, hdl, hrn, decide_eq_false (show ¬ 16 = 0 by decide)] <;> rfl) ?_
 refine EvC.z 0 ?_ (by simp only [go_sem, hdl, hrn] <;> rfl)
 have hv := ring_valid
 have q0 := hwk 30 [.sl false [[.sc (.int .i64 1)], [.sc (.int .i64 2)]] .full, .sc (.int .i64 256)] _ (allF_is ringM hv.small false [1, 2] .unk (by decide) 256)
 rw [allA, if_neg (by rw [ring_all]; simp), show alF ringM [1, 2] = ringF from rfl] at q0
 have hFe : ringF.isEmpty = false := by
  have := ring_len
  cases h : ringF with
  | nil => rw [h] at this; cases this
  | cons a l => rfl
 rw [hFe] at q0
 have hFu : AV.unkss (ringF.map FA.cells) = ringF.map FA.cells := unkss_map FA.cells (fun _ => rfl) ringF
 have q1 := hwk 16 [.sl false (ringF.map FA.cells) .full] _ (by
  simp only [List.map_cons, List.map_nil, AV.unk, hFu]
  exact classes_is ringM hv.small ring_noNil false ringF .unk (by rw [ring_len]; decide))
 rw [clsA, if_pos ring_mut] at q1
 have q3 := hwk 22 [.sl false (ringF.map FA.cells) .full] _ (by
  simp only [List.map_cons, List.map_nil, AV.unk, hFu]
  exact diagnose_is ringM hv.small ring_noNil false ringF .unk (by rw [ring_len]; decide))
 rw [diagA, if_neg (by rw [ring_mut]; simp), if_neg (by rw [ring_len]; decide)] at q3
 have hFl : (ringF.map FA.cells).length = 256 := by rw [List.length_map, ring_len]
 have hFn := fas_norefs ringF
 apply EvC.s1
 ·apply Tr.run
  ·simp only [go_sem, hdl, hrn] <;> rfl
  ·simp
  apply Tr.cons
  ·exact .ca (q0)
  apply Tr.done
  ·simp only [go_sem, hdl, hrn] <;> rfl
  ·simp [hrn, hFn]
 refine EvC.seq ?_
 apply EvC.seq
 apply EvC.trd
 ·simp only [go_sem, hFl] <;> rfl
 ·simp
 refine EvC.cs ?_
 obtain ⟨f0, hf0⟩ : ∃ f, ringF[0]? = some f := ⟨_, List.getElem?_eq_getElem (by rw [ring_len]; decide)⟩
 have hg0 : (ringF.map FA.cells)[0]? = some f0.cells := by rw [List.getElem?_map, hf0]; rfl
 have hF1 : (ringF ++ [f0]).map FA.cells = ringF.map FA.cells ++ [f0.cells] := by rw [List.map_append]; rfl
 have q2 := hwk 16 [.sl false (ringF.map FA.cells ++ [f0.cells]) .unk] _ (by
  rw [← hF1]
  have hu : AV.unkss ((ringF ++ [f0]).map FA.cells) = (ringF ++ [f0]).map FA.cells := unkss_map FA.cells (fun _ => rfl) _
  simp only [List.map_cons, List.map_nil, AV.unk, hu]
  exact classes_is ringM hv.small ring_noNil false (ringF ++ [f0]) .unk (by rw [List.length_append, ring_len]; show 256 + 1 < 1000000; decide))
 rw [clsA, if_neg (by rw [ring_mut2]; decide), ring_mut2] at q2
 have hcg : ∀ (k : Nat) (c : List Int), (classL (ringF.map (mutF ringM)) ringF.length)[k]? = some c → ((classL (ringF.map (mutF ringM)) ringF.length).map fun l => ([AV.sl false (l.map intC) .full] : List AV))[k]? = some [.sl false (c.map intC) .full] := fun k c h => by rw [List.getElem?_map, h]; rfl
 have hCn : ((classL (ringF.map (mutF ringM)) ringF.length).map fun l => ([AV.sl false (l.map intC) .full] : List AV)).all AV.norefs = true := norefs_ask _
 have hCl : ((classL (ringF.map (mutF ringM)) ringF.length).map fun l => ([AV.sl false (l.map intC) .full] : List AV)).length = (classL (ringF.map (mutF ringM)) ringF.length).length := List.length_map _
 generalize ((classL (ringF.map (mutF ringM)) ringF.length).map fun l => ([AV.sl false (l.map intC) .full] : List AV)) = CC at q1 hcg hCn hCl
 have hTn : ((diagL (ringF.map (mutF ringM)) ringF.length).map ndC).all AV.norefs = true := by
  rw [show ndC = ngC ∘ ndG from (funext ndG_cells).symm, ← List.map_map]; exact norefs_ngs _
 generalize hTC : (diagL (ringF.map (mutF ringM)) ringF.length).map ndC = TC at q3 hTn
 have hKn : (ringF.map FA.cells ++ [f0.cells]).all AV.norefs = true := by rw [List.all_append, hFn]; rfl
 have hK1 : (ringF.map FA.cells ++ [f0.cells]).length = 257 := by rw [List.length_append, hFl]; rfl
 have hfg : ∀ (k : Nat) (f : FA), ringF[k]? = some f → (ringF.map FA.cells)[k]? = some f.cells := fun k f h => by rw [List.getElem?_map, h]; rfl
 have hF6 : ∀ c ∈ ringF.map FA.cells, c.length = 6 := fun c hc => by obtain ⟨f, _, rfl⟩ := List.mem_map.1 hc; rfl
 generalize hFS0 : ringF.map FA.cells = FS at hF6 q1 q2 q3 hFl hFn hg0 hfg hKn hK1 ⊢
 apply EvC.s1
 ·apply Tr.run
  ·simp only [go_sem, hdl, hrn, hFn] <;> rfl
  ·simp
  apply Tr.cons
  ·exact .ca (q1)
  apply Tr.done
  ·simp only [go_sem, hdl, hrn, hFn] <;> rfl
  ·simp [hrn, hFn, hCn]
 have hrA : room 256 48 = true := by simp only [room_eq, decide_eq_true_eq]; omega
 have hrB : room 257 48 = true := by simp only [room_eq, decide_eq_true_eq]; omega
 rw [FA.cells] at hg0 q2 hKn hK1
 apply EvC.seq
 apply EvC.drwA mixed
 ·apply Tr.run
  ·simp only [go_sem, hg0, hFl, hFn, hK1] <;> rfl
  ·simp [hrA, hrB]; exact hF6
  apply Tr.cons
  ·exact .callD (xs := [.ag [.sc (.int .i64 1), .sc (.int .i64 2), .sl false RC .unk], .sl false (FS ++ [[.sc (.int .i64 f0.kind), .sc (.int .i64 f0.state), .sc (.int .i64 f0.input), .sc (.int .i64 f0.to), .sc (.int .i64 f0.at'), .sc (.int .i64 f0.out)]]) .unk]) 20 rfl rfl (by simp only [go_sem] <;> rfl) (by simp only [go_sem] <;> rfl) (by simp only [go_sem, hK1, hFl, hFn] <;> rfl) (by simp only [go_sem, hK1, hKn, hFl, hFn, hrn] <;> rfl) (by simp only [go_sem] <;> rfl) (PureIs.frBad q2)
  apply Tr.done
  ·simp only [go_sem] <;> rfl
  ·simp
 ·kernel_rfl
 apply EvC.s1
 ·apply Tr.run
  ·simp only [go_sem, hdl, hrn, hFn] <;> rfl
  ·simp
  apply Tr.cons
  ·exact .ca (q3)
  apply Tr.done
  ·simp only [go_sem, hdl, hrn, hFn] <;> rfl
  ·simp [hrn, hFn, hTn]
 refine EvC.seq ?_
 apply EvC.seq
 apply EvC.trd
 ·simp only [go_sem] <;> rfl
 ·simp
 refine EvC.cs ?_
 have q5 := hwk 19 [.sl false FS .full, .sc (.int .i64 64)] _ (by
  rw [← hFS0]
  simp only [List.map_cons, List.map_nil, AV.unk, hFu]
  exact next_is ringM hv.small ring_noNil false ringF .unk (by rw [ring_len]; decide) 64)
 rw [nextA, if_neg (by rw [ring_mut]; simp), if_neg (by rw [ring_len]; decide), if_neg (by rw [show fewN ringM.ins.toNat (64 : Int).toNat 1 = true from ring_few]; simp), show ringM.ins.toNat = 1 from rfl, show (64 : Int).toNat = 64 from rfl, ring_len] at q5
 obtain ⟨hn1, hn2⟩ := ring_next
 generalize nextF (ringF.map (mutF ringM)) 256 (upL 1 64) [] (256 + 1) = R at q5 hn1 hn2
 obtain ⟨W, lg⟩ := R
 simp only at q5 hn1 hn2
 have hWp := List.length_pos_iff.2 hn1
 have hWn := norefs_intC W
 have hWl : (W.map intC).length = W.length := List.length_map _
 generalize W.map intC = WC at q5 hWn hWl
 have hte : mutErr togM [⟨0, 0, 0, 0, 0, 1⟩] = 0 := by kernel_rfl
 have q6 : PureIs prog 19 [.ag togC, .sl false [fA 0 0 0 0 0 1] .full, .sc (.int .i64 13)] (.tu [.sl true [] .unk, .sc (.int .i64 0), .sc (.int .i64 3)]) := by
  have q := next_is togM tog_rows tog_noNil false [⟨0, 0, 0, 0, 0, 1⟩] .unk (by decide) 13
  rw [nextA, if_neg (by rw [hte]; simp), if_neg (by simp), if_pos (show fewN togM.ins.toNat (13 : Int).toNat 1 = false from tog_few13)] at q
  exact .weak q
 obtain ⟨V, lv, q7⟩ : ∃ (V : List Int) (lv : Int), PureIs prog 19 [.ag togC, .sl false [fA 0 0 0 0 0 1] .full, .sc (.int .i64 12)] (.tu [.sl false (V.map intC) .full, .sc (.int .i64 lv), .sc (.int .i64 0)]) := by
  have q := next_is togM tog_rows tog_noNil false [⟨0, 0, 0, 0, 0, 1⟩] .unk (by decide) 12
  rw [nextA, if_neg (by rw [hte]; simp), if_neg (by simp), if_neg (by rw [show fewN togM.ins.toNat (12 : Int).toNat 1 = true from tog_few12]; simp)] at q
  exact ⟨_, _, .weak q⟩
 have hVn := norefs_intC V
 generalize V.map intC = VC at q7 hVn
 refine EvC.seq ?_
 refine EvC.a ?_
 refine EvC.block ?_
 obtain ⟨cl, hcl⟩ : ∃ cl, cl = classL (ringF.map (mutF ringM)) ringF.length := ⟨_, rfl⟩
 rw [← hcl] at hcg hCl
 have hclb : cl.length ≤ 256 := by
  have := (dvL_bd2 eqM (atM (ringF.map (mutF ringM))) (idL ringF.length)).1
  rw [idL_len, ring_len] at this
  rw [hcl, ring_len]; show (List.map _ _).length ≤ 256; rw [List.length_map]; exact this
 refine EvC.loopS (σ := Nat) (fun k => ⟨[(1, .ia [.sc (.int .i64 1), .sc (.int .i64 2), .sl false RC .unk]), (3, .sl false FS .full), (5, .sl false CC .full), (8, .sl false TC .full), (10, .sc (.int .i64 k))], [], [], 0⟩) (fun k => cl.length - k) (fun k => k ≤ cl.length) [1, 3, 5, 8, 10] 0 ?_ ?_
 ·exact ⟨[], 0, rfl, (by simp only [go_sem, Int.natCast_zero, hrn, hFn, hCn, hTn] <;> rfl), Nat.zero_le _⟩
 intro k hk
 refine EvC.seq ?_
 refine EvC.a ?_ (by simp only [go_sem, hCl, hCn] <;> rfl)
 by_cases hkl : k < cl.length
 rotate_left
 ·refine EvC.cf ?_ (by simp only [go_sem, decide_eq_false (show ¬ (k : Int) < cl.length by omega)] <;> rfl)
  refine EvC.exit ?_
  apply EvC.s1
  ·apply Tr.run
   ·simp only [go_sem, hdl, hrn, hFn, hWn] <;> rfl
   ·simp
   apply Tr.cons
   ·exact .ca (q5)
   apply Tr.done
   ·simp only [go_sem, hdl, hrn, hFn, hWn] <;> rfl
   ·simp [hrn, hFn, hWn]
  apply EvC.s1
  ·apply Tr.run
   ·simp only [go_sem] <;> rfl
   ·simp
   apply Tr.cons
   ·exact .ca (ex_tog_is)
   apply Tr.run
   ·simp only [go_sem] <;> rfl
   ·simp
   apply Tr.cons
   ·exact .ca (q6)
   apply Tr.done
   ·simp only [go_sem] <;> rfl
   ·simp
  apply EvC.s1
  ·apply Tr.run
   ·simp only [go_sem, hVn] <;> rfl
   ·simp
   apply Tr.cons
   ·exact .ca (ex_tog_is)
   apply Tr.run
   ·simp only [go_sem, hVn] <;> rfl
   ·simp
   apply Tr.cons
   ·exact .ca (q7)
   apply Tr.done
   ·simp only [go_sem, hVn] <;> rfl
   ·simp [hVn]
  apply EvC.s1
  ·apply Tr.run
   ·simp only [go_sem, hWl, decide_eq_true (show (0 : Int) < W.length by omega), decide_eq_true (show (lg : Int) < 256 by omega)] <;> rfl
   ·simp
   apply Tr.cons
   ·exact .cg (q9)
   apply Tr.done
   ·simp only [go_sem] <;> rfl
   ·simp
  refine EvC.rz ?_
  simp only [go_sem]
 have hke := List.getElem?_eq_getElem hkl
 have hkm := List.getElem_mem hkl
 generalize cl[k] = c at hke hkm
 have hkg := hcg k c hke
 obtain ⟨a, r, har⟩ : ∃ a r, c = a :: r := by
  cases hh : c with
  | nil =>
    rw [hcl] at hkm
    obtain ⟨p, hp, hpe⟩ := List.mem_map.1 hkm
    exact absurd (hpe.trans hh) (dvL_ne2 _ p hp)
  | cons a r => exact ⟨a, r, rfl⟩
 have ha : 0 ≤ a ∧ a < 256 := by
  rw [hcl] at hkm
  obtain ⟨p, hp, hpe⟩ := List.mem_map.1 hkm
  have := dvL_sub (idL ringF.length) p hp a (by rw [hpe, har]; simp)
  have := idL_mem.1 this
  rw [ring_len] at this; exact this
 obtain ⟨aN, haN⟩ : ∃ n : Nat, (n : Int) = a := ⟨a.toNat, by omega⟩
 have hat : a.toNat = aN := by omega
 obtain ⟨f, hfa⟩ : ∃ f, ringF[aN]? = some f := ⟨_, List.getElem?_eq_getElem (by rw [ring_len]; omega)⟩
 have hfm := List.mem_of_getElem? hfa
 have hX := xok_of hv ring_ok
 have hcc : c = clsF (ringF.map (mutF ringM)) ringF.length aN := classL_mem hX (by rw [← hcl]; exact hkm) (by rw [har, haN]; simp)
 obtain ⟨b8, A8, q8, hA8⟩ := walkProg hv ring_ok (by rw [ring_len]; decide) (by rw [ring_len]; decide) hfa
 rw [← hcc, hTC] at q8
 have hfg2 := hfg aN f hfa
 have q10 := hwk 23 [.ag f.cells] _ (by
  have e : AV.unk (.ag f.cells) = .ag f.cells := rfl
  rw [List.map_cons, List.map_nil, e]
  exact apply55_is hv f (by have := ring_ok f hfm; unfold checkF at this; by_cases h : faultB ringM f = true <;> simp_all))
 rw [Mach.cells] at q8 q10
 rw [FA.cells] at hfg2 q10
 have q11 := same_is false c .full false c .full (by rw [hcc]; have := clsF_len (ringF.map (mutF ringM)) ringF.length aN; rw [ring_len] at this ⊢; omega)
 rw [decide_eq_true rfl] at q11
 have hcn := norefs_intC c
 have hc0 : (c.map intC)[0]? = some [.sc (.int .i64 a)] := by rw [har]; rfl
 generalize c.map intC = cI at q8 q11 hkg hcn hc0
 generalize mutF ringM f = mf at q8 q10
 obtain ⟨kZ, hkZ⟩ : ∃ z : Int, z = (k : Int) := ⟨_, rfl⟩
 have hkt : kZ.toNat = k := by omega
 rw [← hkZ]
 refine EvC.cr ?_ (by simp only [go_sem, decide_eq_true (show kZ < (cl.length : Int) by omega)] <;> rfl)
 refine EvC.seq ?_
 refine EvC.block ?_
 have hcl0 : 0 < cI.length := by
  cases hh : cI with
  | nil => rw [hh] at hc0; cases hc0
  | cons x y => simp
 apply EvC.seq
 apply EvC.drw mixed
 ·apply Tr.run
  ·simp only [go_sem, hdl, hrn, hFn, hFl, hCl, hkg, hkt, hc0, hat, hfg2, hTn] <;> rfl
  ·simp [hCl, hFl, hcl0]; try omega
  apply Tr.cons
  ·exact .call rfl rfl (by simp only [go_sem] <;> rfl) (by simp only [go_sem] <;> rfl) (by simp only [go_sem, hdl, hrn, hFn, hTn, hcn, hA8] <;> rfl) (by simp only [go_sem, hdl, hrn, hFn, hTn, hcn, hA8] <;> rfl) (by simp only [go_sem] <;> rfl) (q10)
  apply Tr.run
  ·simp only [go_sem, hdl, hrn, hFn, hFl, hCl, hkg, hkt, hc0, hat, hfg2, hTn] <;> rfl
  ·simp [hCl, hFl, hcl0]; try omega
  apply Tr.cons
  ·exact .call rfl rfl (by simp only [go_sem] <;> rfl) (by simp only [go_sem] <;> rfl) (by simp only [go_sem, hdl, hrn, hFn, hTn, hcn, hA8] <;> rfl) (by simp only [go_sem, hdl, hrn, hFn, hTn, hcn, hA8] <;> rfl) (by simp only [go_sem] <;> rfl) (q8)
  apply Tr.done
  ·simp only [go_sem, hdl, hrn, hFn, hTn, hcn, hA8] <;> rfl
  ·simp [hcn, hA8]
 ·kernel_rfl
 apply EvC.s1
 ·apply Tr.run
  ·simp only [go_sem, hkg, hkt, hCl, hcn, hCn] <;> rfl
  ·simp [hCl]; try omega
  apply Tr.cons
  ·exact .cg (q11)
  apply Tr.done
  ·simp only [go_sem] <;> rfl
  ·simp
 refine EvC.cs ?_
 refine EvC.b ?_ (hok := by exact inI64_of (by omega) (by omega))
 exact ⟨[], k + 1, rfl, (by rw [hkZ]; simp only [go_sem, hrn, hFn, hCn, hTn, Int.natCast_add, Int.natCast_one] <;> rfl), hkl, by omega⟩
open Go Go.ChangeShapes Go.RowKit
def Live (w : World) : Nat → Nat → Prop := fun b _ => b < w.heap.size
section
variable {H : Type} {enc : TypeId × Value → H} {P : Program} {w : World} {α β : Type}
def Fits (P : Program) (t : TypeId) (d : DataW H) : Prop := ∀ n ∈ d.weights P t, n ≤ reachBytes
theorem fits_all {P : Program} {e : TypeId} : ∀ {l : List (DataW H)}, (∀ n ∈ DataW.weightsAll P e l, n ≤ reachBytes) → ∀ d ∈ l, Fits P e d
 | [], _, d, hd => by cases hd
 | a :: l, h, d, hd => by
   simp only [DataW.weightsAll, List.mem_append] at h
   rcases List.mem_cons.1 hd with rfl | hd
   ·exact fun n hn => h n (.inl hn)
   ·exact fits_all (fun n hn => h n (.inr hn)) d hd
theorem fits_each {P : Program} : ∀ {ts : List TypeId} {l : List (DataW H)}, (∀ n ∈ DataW.weightsEach P ts l, n ≤ reachBytes) → ∀ (i : Nat) t d, ts[i]? = some t → l[i]? = some d → Fits P t d
 | [], _, _, i, t, d, h1, _ => by simp at h1
 | _ :: _, [], _, i, t, d, _, h2 => by simp at h2
 | a :: ts, b :: l, h, i, t, d, h1, h2 => by
   simp only [DataW.weightsEach, List.mem_append] at h
   cases i with
   | zero =>
     simp only [List.getElem?_cons_zero, Option.some.injEq] at h1 h2
     subst h1; subst h2
     exact fun n hn => h n (.inl hn)
   | succ i => exact fits_each (fun n hn => h n (.inr hn)) i t d (by simpa using h1) (by simpa using h2)
def Reads (enc : TypeId × Value → H) (P : Program) (w : World) (t : TypeId) (f : α → List AV) (Ok : α → Prop) : Prop :=
 ∀ fuel cs x, Fits P t x.1 → DataW.trod enc P w 0 (fun _ => true) true fuel t cs = some x →
   ∃ a, Ok a ∧ Imms (Live w) w cs (f a) ∧ ∀ v ∈ cs, v.oneCell' = true
theorem Imms.one {F : Nat → Nat → Prop} {v : Value} {x : AV} (h : Imm F w v x) : Imms F w [v] [x] :=
 ⟨rfl, fun i h1 _ => by have : i = 0 := by simpa using h1
                        subst this; exact h⟩
theorem Imms.append {F : Nat → Nat → Prop} {vs vs' : List Value} {xs xs' : List AV} (h : Imms F w vs xs) (h' : Imms F w vs' xs') : Imms F w (vs ++ vs') (xs ++ xs') := by
 have e := h.1
 have e' := h'.1
 refine ⟨by simp [e, e'], fun i h1 h2 => ?_⟩
 by_cases hi : i < vs.length
 ·rw [List.getElem_append_left hi, List.getElem_append_left (by omega)]; exact h.2 i _ _
 ·rw [List.getElem_append_right (by omega), List.getElem_append_right (by omega)]
  have := h'.2 (i - vs.length) (by simp at h1; omega) (by simp at h2; omega)
  simpa only [e] using this
theorem Reads.mono {t : TypeId} {f : α → List AV} {Ok : α → Prop} {g : β → List AV} {Ok' : β → Prop} (h : Reads enc P w t f Ok) (hq : ∀ a, Ok a → ∃ b, Ok' b ∧ g b = f a) : Reads enc P w t g Ok' :=
 fun fuel cs x hs ht => let ⟨a, h1, h2, h3⟩ := h fuel cs x hs ht; let ⟨b, k1, k2⟩ := hq a h1; ⟨b, k1, by rw [k2]; exact h2, h3⟩
theorem Reads.int {t : TypeId} {k : IntKind} (ht : P.underlying t = some (.int k)) : Reads enc P w t (fun n : Int => [.sc (.int k n)]) (fun n => (Lit.int k n).wf = true) := fun fuel cs x _ h => by
 obtain ⟨n, rfl, rfl, hw⟩ := DataW.trod_int ht h
 exact ⟨n, hw, .one (.sc _), by simp [Value.oneCell']⟩
theorem Reads.bool {t : TypeId} (ht : P.underlying t = some .bool) : Reads enc P w t (fun b : Bool => [.sc (.bool b)]) (fun _ => True) := fun fuel cs x _ h => by
 obtain ⟨b, rfl, rfl⟩ := DataW.trod_bool ht h
 exact ⟨b, trivial, .one (.sc _), by simp [Value.oneCell']⟩
theorem pick {α : Type} {p : Nat → α → Prop} (n : Nat) (h : ∀ i, i < n → ∃ a, p i a) : ∃ l : List α, l.length = n ∧ ∀ i (hi : i < l.length), p i l[i] := by
 induction n with
 | zero => exact ⟨[], rfl, fun i hi => by simp at hi⟩
 | succ n ih =>
   obtain ⟨l, h1, h2⟩ := ih fun i hi => h i (by omega)
   obtain ⟨a, ha⟩ := h n (by omega)
   refine ⟨l ++ [a], by simp [h1], fun i hi => ?_⟩
   by_cases h3 : i < l.length
   ·rw [List.getElem_append_left h3]; exact h2 i h3
   ·have : i = l.length := by simp at hi; omega
    subst this
    rw [List.getElem_append_right (Nat.le_refl _)]
    simpa [h1] using ha
theorem Reads.slice {t e : TypeId} {f : α → List AV} {Ok : α → Prop} (ht : P.underlying t = some (.slice e)) (he : Reads enc P w e f Ok) (hz : ∀ a, (f a).length = P.cellsOf e) (hz0 : 0 < P.cellsOf e) :
  Reads enc P w t (fun x : Bool × List α => [.sl x.1 (x.2.map f) .unk]) (fun x => (∀ y ∈ x.2, Ok y) ∧ (x.1 = true → x.2 = []) ∧ x.2.length * P.bytesOf e ≤ reachBytes) := fun fuel cs x hs h => by
 rcases DataW.trod_slice ht h with ⟨rfl, rfl⟩ | ⟨a, len, cap, elems, rest, n, rfl, rfl, rfl, _, hlc, hcm, hlen, hel, hrest, _⟩
 ·exact ⟨(true, []), ⟨by simp, fun _ => rfl, by simp⟩, .one (.nil _ (.inl rfl)), by simp [Value.oneCell']⟩
 unfold Fits at hs
 simp only [DataW.weights, ht, List.mem_cons, List.mem_append, List.length_map] at hs
 have hbytes : len * P.bytesOf e ≤ reachBytes := by
  have := hs _ (.inl rfl)
  rw [hlen, Nat.add_mul] at this; omega
 have hfit : ∀ i (hi : i < elems.length), Fits P e elems[i].1 := fun i hi =>
  fits_all (l := elems.map (·.1)) (fun n hn => hs n (.inr (.inl hn))) _ (List.mem_map.2 ⟨_, List.getElem_mem hi, rfl⟩)
 by_cases hc0 : cap = 0
 ·have hl0 : len = 0 := by omega
  subst hc0; subst hl0
  exact ⟨(false, []), ⟨by simp, by simp, by simp⟩, .one (.sz a _ (.inl rfl)), by simp [Value.oneCell']⟩
 have hfirst : ∃ v, w.cell? a = some v := by
  have hcells : ∃ cs', w.cells? 0 a (P.cellsOf e) = some cs' := by
   by_cases hl0 : len = 0
   ·subst hl0
    have h1 := (hrest rfl).2 0 (by omega)
    rw [List.getElem?_eq_getElem (by rw [(hrest rfl).1]; omega)] at h1
    obtain ⟨cs', h2, _⟩ := Option.bind_eq_some_iff.1 h1
    refine ⟨cs', ?_⟩
    simpa [Addr.add] using h2
   ·have h1 := hel 0 (by omega)
    rw [List.getElem?_eq_getElem (by omega)] at h1
    obtain ⟨cs', h2, _⟩ := Option.bind_eq_some_iff.1 h1
    refine ⟨cs', ?_⟩
    simpa [Addr.add] using h2
  obtain ⟨cs', h2⟩ := hcells
  obtain ⟨_, q1, q2⟩ := World.cells?_some h2
  have := q2 0 hz0
  rw [List.getElem?_eq_getElem (by omega)] at this
  exact ⟨_, by simpa [Addr.add] using this⟩
 have hsp : a.spot = none := by
  obtain ⟨v, hv⟩ := hfirst
  unfold World.cell? at hv
  cases hsp : a.spot with
  | none => rfl
  | some k =>
    rw [hsp] at hv
    split at hv <;> simp at hv
 obtain ⟨b, off, spt⟩ := a
 cases hsp
 have key : ∀ i, i < len → ∃ y : α, Ok y ∧ ∃ cs', cs'.length = P.cellsOf e ∧ (∀ j (hj : j < cs'.length), w.cell? ⟨b, off + i * P.cellsOf e + j, none⟩ = some cs'[j]) ∧ Imms (Live w) w cs' (f y) ∧ ∀ v ∈ cs', v.oneCell' = true := fun i hi => by
  have h1 := hel i hi
  rw [List.getElem?_eq_getElem (by omega)] at h1
  obtain ⟨cs', h2, h3⟩ := Option.bind_eq_some_iff.1 h1
  obtain ⟨y, k1, k2, k3⟩ := he _ _ _ (hfit i (by omega)) h3
  obtain ⟨_, q1, q2⟩ := World.cells?_some h2
  refine ⟨y, k1, cs', q1, fun j hj => ?_, k2, k3⟩
  have := q2 j (by omega)
  rw [List.getElem?_eq_getElem hj] at this
  rw [← this]
  congr 1
  unfold Addr.add
  by_cases e1 : i * P.cellsOf e = 0
  ·rw [if_pos e1]
   by_cases e2 : j = 0
   ·subst e2; simp [e1]
   ·rw [if_neg e2]; simp [e1]
  ·rw [if_neg e1]
   by_cases e2 : j = 0
   ·subst e2; simp
   ·rw [if_neg e2]
 obtain ⟨l, hl, hp⟩ := pick len key
 refine ⟨(false, l), ⟨fun y hy => ?_, by simp, by rw [hl]; exact hbytes⟩, .one ?_, by simp [Value.oneCell']⟩
 ·obtain ⟨i, hi, rfl⟩ := List.getElem_of_mem hy
  exact (hp i hi).1
 ·
  have hcell : ∀ i j, i < len → j < P.cellsOf e → ∃ v, w.cell? ⟨b, off + i * P.cellsOf e + j, none⟩ = some v ∧ v.oneCell' = true ∧ ∀ (h : i < l.length) (h' : j < (f l[i]).length), Imm (Live w) w v (f l[i])[j] := fun i j hi hj => by
   obtain ⟨_, cs', q1, q2, q3, q4⟩ := hp i (by omega)
   exact ⟨cs'[j], q2 j (by omega), q4 _ (List.getElem_mem _), fun h h' => q3.2 j (by omega) h'⟩
  have hv := fun i j => show ∃ v, i < len → j < P.cellsOf e → w.cell? ⟨b, off + i * P.cellsOf e + j, none⟩ = some v ∧ v.oneCell' = true ∧ ∀ (h : i < l.length) (h' : j < (f l[i]).length), Imm (Live w) w v (f l[i])[j] from by
   by_cases h : i < len ∧ j < P.cellsOf e
   ·obtain ⟨v, hv⟩ := hcell i j h.1 h.2; exact ⟨v, fun _ _ => hv⟩
   ·exact ⟨undef, fun h1 h2 => absurd ⟨h1, h2⟩ h⟩
  have hvs : ∀ i j, ∃ v, v = Classical.choose (hv i j) := fun i j => ⟨_, rfl⟩
  have e0 : (l.map f).length = len := by simp [hl]
  have := Imm.sl (F := Live w) (w := w) b off cap (P.cellsOf e) (l.map f) .unk (fun i j => Classical.choose (hv i j)) (by rw [e0]; exact hlc) (.inl rfl) (fun i hi => by rw [List.getElem_map]; exact hz _)
   (fun i j hi hj => by
    obtain ⟨k1, k2, _⟩ := Classical.choose_spec (hv i j) (by rw [← e0]; exact hi) hj
    refine ⟨?_, k1, k2⟩
    unfold World.cell? at k1
    show b < w.heap.size
    cases hb : w.heap[b]? with
    | none => simp [hb] at k1
    | some o => exact (Array.getElem?_eq_some_iff.1 hb).1)
   (fun i j h h' => by
    have h'2 := h'
    rw [List.getElem_map, hz] at h'2
    have := (Classical.choose_spec (hv i j) (by rw [← e0]; exact h) h'2).2.2 (by simpa using h) (by rw [hz]; exact h'2)
    simpa only [List.getElem_map] using this)
  rw [e0] at this
  exact this
def RdF (enc : TypeId × Value → H) (P : Program) (w : World) (L : List Field) (k tot : Nat) (f : α → List AV) (Ok : α → Prop) : Prop :=
 ∀ (n : Nat) (cs : List Value), cs.length = tot → (∀ fd ∈ L, ∃ y, DataW.trod enc P w 0 (fun _ => true) true n fd.type ((cs.drop fd.offset).take (P.cellsOf fd.type)) = some y ∧ Fits P fd.type y.1) →
   ∃ a, Ok a ∧ Imms (Live w) w (cs.drop k) (f a) ∧ ∀ v ∈ cs.drop k, v.oneCell' = true
theorem RdF.nil {tot : Nat} : RdF enc P w [] tot tot (fun _ : Unit => []) (fun _ => True) := fun n cs hl _ => by
 have : cs.drop tot = [] := by rw [List.drop_eq_nil_iff]; omega
 rw [this]
 exact ⟨(), trivial, ⟨rfl, fun i h => by simp at h⟩, by simp⟩
theorem RdF.cons {fd : Field} {fs : List Field} {k k' sz tot : Nat} {f : α → List AV} {Ok : α → Prop} {g : β → List AV} {Ok' : β → Prop} (ho : fd.offset = k) (hz : P.cellsOf fd.type = sz) (hk : k + sz = k')
  (h : Reads enc P w fd.type f Ok) (hs : RdF enc P w fs k' tot g Ok') : RdF enc P w (fd :: fs) k tot (fun x : α × β => f x.1 ++ g x.2) (fun x => Ok x.1 ∧ Ok' x.2) := fun n cs hl hf => by
 obtain ⟨y, hy, hyf⟩ := hf fd List.mem_cons_self
 obtain ⟨a, h1, h2, h3⟩ := h _ _ _ hyf hy
 obtain ⟨b, k1, k2, k3⟩ := hs n cs hl fun fd' h' => hf fd' (List.mem_cons_of_mem _ h')
 have e : cs.drop k = (cs.drop k).take sz ++ cs.drop k' := by
  rw [← hk, ← List.drop_drop, List.take_append_drop]
 rw [ho, hz] at h2 h3
 refine ⟨(a, b), ⟨h1, k1⟩, by rw [e]; exact h2.append k2, fun v hv => ?_⟩
 rw [e, List.mem_append] at hv
 rcases hv with hv | hv
 ·exact h3 v hv
 ·exact k3 v hv
theorem Reads.struct {t : TypeId} {fs : Array Field} {tot : Nat} {f : α → List AV} {Ok : α → Prop} (ht : P.underlying t = some (.struct fs)) (hz : P.cellsOf t = tot) (h : RdF enc P w fs.toList 0 tot f Ok) : Reads enc P w t f Ok := fun fuel cs x hs hx => by
 obtain ⟨xs, n, _, rfl, hl, hlen, hf⟩ := DataW.trod_struct ht hx
 unfold Fits at hs
 simp only [DataW.weights, ht] at hs
 obtain ⟨a, h1, h2, h3⟩ := h n cs (hl.trans hz) fun fd hfd => by
  obtain ⟨i, hi, rfl⟩ := List.getElem_of_mem hfd
  have := hf i fs.toList[i] (by simp)
  have hix : i < xs.length := by simp at hi; omega
  rw [List.getElem?_eq_getElem hix] at this
  exact ⟨_, this, fits_each hs i _ _ (by rw [List.getElem?_map, List.getElem?_eq_getElem hi]; rfl) (by rw [List.getElem?_map, List.getElem?_eq_getElem hix]; rfl)⟩
 exact ⟨a, h1, by simpa using h2, by simpa using h3⟩
theorem arr_go {sz : Nat} {f : α → List AV} {Ok : α → Prop} : ∀ (n : Nat) (cs : List Value), cs.length = n * sz →
  (∀ i, i < n → ∃ a, Ok a ∧ Imms (Live w) w ((cs.drop (i * sz)).take sz) (f a) ∧ ∀ v ∈ (cs.drop (i * sz)).take sz, v.oneCell' = true) →
  ∃ l : List α, l.length = n ∧ (∀ a ∈ l, Ok a) ∧ Imms (Live w) w cs (l.map f).flatten ∧ ∀ v ∈ cs, v.oneCell' = true
 | 0, cs, hl, _ => by
   have : cs = [] := by cases cs with
    | nil => rfl
    | cons a l => simp at hl
   subst this
   exact ⟨[], rfl, by simp, ⟨rfl, fun i h => by simp at h⟩, by simp⟩
 | n + 1, cs, hl, h => by
   obtain ⟨a, h1, h2, h3⟩ := h 0 (by omega)
   obtain ⟨l, k1, k2, k3, k4⟩ := arr_go (sz := sz) n (cs.drop sz) (by rw [List.length_drop, hl, Nat.add_mul]; omega) fun i hi => by
    have := h (i + 1) (by omega)
    rwa [List.drop_drop, show sz + i * sz = (i + 1) * sz by rw [Nat.add_mul]; omega]
   simp only [Nat.zero_mul, List.drop_zero] at h2 h3
   have e := List.take_append_drop sz cs
   refine ⟨a :: l, by simp [k1], fun b hb => ?_, ?_, fun v hv => ?_⟩
   ·rcases List.mem_cons.1 hb with rfl | hb
    ·exact h1
    ·exact k2 b hb
   ·rw [← e]; simpa using h2.append k3
   ·rw [← e, List.mem_append] at hv
    rcases hv with hv | hv
    ·exact h3 v hv
    ·exact k4 v hv
theorem Reads.array {t e : TypeId} {n sz : Nat} {f : α → List AV} {Ok : α → Prop} (ht : P.underlying t = some (.array n e)) (hz : P.cellsOf e = sz) (ha : P.cellsOf t = n * sz) (h : Reads enc P w e f Ok) :
  Reads enc P w t (fun l : List α => (l.map f).flatten) (fun l => l.length = n ∧ ∀ a ∈ l, Ok a) := fun fuel cs x hs hx => by
 obtain ⟨xs, m, _, rfl, hl, hlen, hf⟩ := DataW.trod_array ht hx
 rw [ha] at hl
 rw [hz] at hf
 unfold Fits at hs
 simp only [DataW.weights, ht] at hs
 obtain ⟨l, h1, h2, h3, h4⟩ := arr_go n cs hl fun i hi => by
  have := hf i hi
  rw [List.getElem?_eq_getElem (by omega)] at this
  exact h _ _ _ (fits_all hs _ (List.mem_map.2 ⟨_, List.getElem_mem _, rfl⟩)) this
 exact ⟨l, ⟨h1, h2⟩, h3, h4⟩
theorem Grown.below {F F' : Nat → Nat → Prop} {w' : World} (g : Avl.Grown F w F' w') : Below w.heap.size w w' := ⟨g.kept.os, g.kept.tape, g.kept.output, g.size, g.old⟩
theorem trodAll_stays (hl : laidOutB P = true) {w' : World} (hb : Below w.heap.size w w') {spf : Nat → Bool} : ∀ {ts : List TypeId} {vs : List Value} {ds : List (DataW H)} {ps : List MemPlace}, (∀ t ∈ ts, P.readableRec t = true ∧ t < P.types.size) →
  DataW.TrodAll enc P w 0 (fun _ => true) true ts vs ds ps → (∀ p ∈ ps, p.block < w.heap.size) → (∀ p ∈ ps, spf p.block = true) → DataW.TrodAll enc P w' 0 spf true ts vs ds ps
 | [], [], [], _, _, h, _, _ => h
 | t :: ts, v :: vs, d :: ds, _, hr, ⟨p, q, h1, h2, e⟩, hlt, hsp => by
   subst e
   refine ⟨p, q, ?_, trodAll_stays hl hb (fun t ht => hr t (List.mem_cons_of_mem _ ht)) h2 (fun x hx => hlt x (List.mem_append_right _ hx)) fun x hx => hsp x (List.mem_append_right _ hx), rfl⟩
   have := hr t List.mem_cons_self
   exact WideElems.Trod_stays hl this.1 this.2 h1 (fun x hx => hb.same (hlt x (List.mem_append_left _ hx))) fun x hx => hsp x (List.mem_append_left _ hx)
 | [], _ :: _, _, _, _, h, _, _ => h.elim
 | [], [], _ :: _, _, _, h, _, _ => h.elim
 | _ :: _, [], _, _, _, h, _, _ => h.elim
 | _ :: _, _ :: _, [], _, _, h, _, _ => h.elim
theorem law_calls {f : FuncId} {fn : Func} {s : ChangeSpec} {apart fresh handsOn again : Bool} {args : Array Value} {avs : List AV} {ds : List (DataW H)} {before : List MemPlace} {tb : TypeId}
  (hl : laidOutB P = true) (hrd : (fn.params.toList.all fun t => P.readableRec t && decide (t < P.types.size)) = true) (hrt : fn.resultTypes = #[tb]) (htb : P.underlying tb = some .bool) (hvars : s.vars = [])
  (hs : s.fn H (ds ++ []) = { results := [.lit (.bool true)], args := ds })
  (h : PureIs P f avs (.sc (.bool true))) (hi : Imms (Live w) w args.toList avs) (hW : DataW.Whole enc P fn.params.toList s.vars apart w args.toList ds [] before) (hgl : Globs (Live w) w := by exact fun g vs hg => by cases hg) :
  Calls P f args w fun e W' => ∃ v, e = .returned v ∧ s.post enc P fn apart fresh handsOn again w args v W' := by
 have hW' := hW
 obtain ⟨p, q, hA, hV, rfl, hfz, hnd⟩ := hW
 rw [hvars] at hV
 obtain ⟨_, rfl⟩ := trodVars_none hV
 have hc := callsIn_wide.1 (h.2 (Live w) w args.toList ⟨fun _ _ h => h, hgl⟩ hi)
 rw [Array.toArray_toList] at hc
 refine hc.mono fun e W' ⟨v, F', he, hr, g⟩ => ?_
 have hv : v = .bool true := by cases hr; rfl
 subst hv
 have hb := Grown.below g
 refine ⟨_, he, post_of_same (pa := p) (pv := []) (by simpa using hW') (fun _ _ _ => ?_) (fun sp hsp => ?_) (fun _ _ => ?_) (by simp) (hb.frame _) g.kept.froz ?_⟩
 ·rw [hs, hrt]; exact trodAll_mk1 (shut_bool htb true)
 ·rw [hs]
  refine trodAll_stays hl hb (fun t ht => ?_) hA (fun x hx => hW'.lt x (by simpa using hx)) fun x hx => hsp x (by simpa using hx)
  have := List.all_eq_true.1 hrd t ht
  simpa using this
 ·rw [hvars, hs]; exact rfl
 ·exact ok_one hrt rfl (okWide_bool_mk htb true)
end
open Go Go.Proofs
end Go.Avl
namespace Go.Proofs.YtgdcjkcohmjbeaaDoor
open Go Go.Avl Go.Proofs Go.ChangeShapes Go.RowKit
theorem Tryd.own : ownKnob Tryd.prog.godebug = none := by kernel_rfl
theorem Tryd.laidOut : laidOutB Tryd.prog = true := by kernel_rfl
abbrev laidT : List (String × DataW Unit) := [("gauntlet/faults.table", Rows.laid_gauntlet_faults_table)]
section
variable {H : Type} {enc : TypeId × Value → H} {w : World}
end
theorem gTable : Tryd.prog.globalNamed "gauntlet/faults.table" = some 0 := by kernel_rfl
theorem tTable : (Tryd.prog.globals[0]?).map (·.type) = some 179 := by kernel_rfl
theorem string_eq {s t : ByteArray} (h : s.data.toList = t.data.toList) : s = t := by
 obtain ⟨⟨l⟩⟩ := s; obtain ⟨⟨k⟩⟩ := t
 simp only at h
 rw [h]
set_option maxRecDepth 100000 in
theorem kind_cells {W : World} {m : Nat} {cs : List Value} {n : List UInt8} {a b c : Bool} {ps : List MemPlace} (h : DataW.trod (fun _ => ()) Tryd.prog W 0 (fun _ => true) false m 178 cs = some (.agg [.lit (.string n), .lit (.bool a), .lit (.bool b), .lit (.bool c)], ps)) :
  cs = [kindN n, .bool a, .bool b, .bool c] := by
 obtain ⟨xs, k, _, he, hl, hlen, hf⟩ := DataW.trod_struct Tryd.underlying178 h
 have hl4 : cs.length = 4 := hl.trans (by kernel_rfl)
 match cs, hl4 with
 | [c0, c1, c2, c3], _ =>
   have h0 : DataW.trod (fun _ => ()) Tryd.prog W 0 (fun _ => true) false k 9 (([c0, c1, c2, c3].drop 0).take (Program.cellsOf Tryd.prog 9)) = xs[0]? := hf 0 _ rfl
   have h1 : DataW.trod (fun _ => ()) Tryd.prog W 0 (fun _ => true) false k 4 (([c0, c1, c2, c3].drop 1).take (Program.cellsOf Tryd.prog 4)) = xs[1]? := hf 1 _ rfl
   have h2 : DataW.trod (fun _ => ()) Tryd.prog W 0 (fun _ => true) false k 4 (([c0, c1, c2, c3].drop 2).take (Program.cellsOf Tryd.prog 4)) = xs[2]? := hf 2 _ rfl
   have h3 : DataW.trod (fun _ => ()) Tryd.prog W 0 (fun _ => true) false k 4 (([c0, c1, c2, c3].drop 3).take (Program.cellsOf Tryd.prog 4)) = xs[3]? := hf 3 _ rfl
   have e9 : Program.cellsOf Tryd.prog 9 = 1 := by kernel_rfl
   have e4 : Program.cellsOf Tryd.prog 4 = 1 := by kernel_rfl
   simp only [e9, e4, List.drop_zero, List.drop_succ_cons, List.take_succ_cons, List.take_zero] at h0 h1 h2 h3
   match xs, hlen with
   | [x0, x1, x2, x3], _ =>
     simp only [Prod.mk.injEq, DataW.agg.injEq, List.map_cons, List.map_nil, List.cons.injEq, and_true] at he
     obtain ⟨⟨e0, e1, e2, e3⟩, _⟩ := he
     obtain ⟨s, q0, r0, _⟩ := DataW.trod_string Tryd.underlying9 h0
     obtain ⟨b1, q1, r1⟩ := DataW.trod_bool Tryd.underlying4 h1
     obtain ⟨b2, q2, r2⟩ := DataW.trod_bool Tryd.underlying4 h2
     obtain ⟨b3, q3, r3⟩ := DataW.trod_bool Tryd.underlying4 h3
     rw [r0] at e0; rw [r1] at e1; rw [r2] at e2; rw [r3] at e3
     simp only [DataW.lit.injEq, Lit.string.injEq, Lit.bool.injEq] at e0 e1 e2 e3
     simp only [List.cons.injEq, and_true] at q0 q1 q2 q3
     subst q0 q1 q2 q3 e1 e2 e3
     have : s = ⟨n.toArray⟩ := string_eq (by simpa using e0.symm)
     rw [this]; rfl
set_option maxRecDepth 100000 in
theorem globs_of {W : World} (h : laidMetH Tryd.prog laidT W) : Globs (Live W) W := by
 rw [MakeChecks.laidMetH_plain _ _ _ (by kernel_rfl)] at h
 obtain ⟨ps, ⟨g, t, cs, fuel, p, q, hg, ht, hvar, hd, _, _⟩, _, _⟩ := h
 obtain rfl := Option.some.inj (gTable.symm.trans hg)
 obtain rfl := Option.some.inj (tTable.symm.trans ht)
 obtain ⟨xs, m, _, he, hl, hlen, hf⟩ := DataW.trod_array Tryd.underlying179 hd
 have e178 : Program.cellsOf Tryd.prog 178 = 4 := by kernel_rfl
 have hl20 : cs.toList.length = 20 := hl.trans (by kernel_rfl)
 have hcs : cs.toList = kindTab := by
  rw [e178] at hf
  match xs, hlen with
  | [x0, x1, x2, x3, x4], _ =>
    have h0 := hf 0 (by decide)
    have h1 := hf 1 (by decide)
    have h2 := hf 2 (by decide)
    have h3 := hf 3 (by decide)
    have h4 := hf 4 (by decide)
    simp only [Rows.laid_gauntlet_faults_table, Prod.mk.injEq, DataW.agg.injEq, List.map_cons, List.map_nil, List.cons.injEq, and_true] at he
    obtain ⟨⟨e0, e1, e2, e3, e4⟩, _⟩ := he
    obtain ⟨d0, p0⟩ := x0
    obtain ⟨d1, p1⟩ := x1
    obtain ⟨d2, p2⟩ := x2
    obtain ⟨d3, p3⟩ := x3
    obtain ⟨d4, p4⟩ := x4
    simp only at e0 e1 e2 e3 e4
    subst e0 e1 e2 e3 e4
    have k0 := kind_cells h0
    have k1 := kind_cells h1
    have k2 := kind_cells h2
    have k3 := kind_cells h3
    have k4 := kind_cells h4
    have key : cs.toList = (cs.toList.drop (0 * 4)).take 4 ++ ((cs.toList.drop (1 * 4)).take 4 ++ ((cs.toList.drop (2 * 4)).take 4 ++ ((cs.toList.drop (3 * 4)).take 4 ++ (cs.toList.drop (4 * 4)).take 4))) := by
     have e : (cs.toList.drop (4 * 4)).take 4 = cs.toList.drop (4 * 4) := List.take_of_length_le (by rw [List.length_drop, hl20]; decide)
     rw [e]
     have s : ∀ k, cs.toList.drop (k * 4) = (cs.toList.drop (k * 4)).take 4 ++ cs.toList.drop ((k + 1) * 4) := fun k => by
      rw [show (k + 1) * 4 = k * 4 + 4 by omega, ← List.drop_drop, List.take_append_drop]
     have z : cs.toList = cs.toList.drop (0 * 4) := by simp
     exact z.trans ((s 0).trans (congrArg _ ((s 1).trans (congrArg _ ((s 2).trans (congrArg _ ((s 3).trans (congrArg _ rfl))))))))
    rw [k0, k1, k2, k3, k4] at key
    rw [key]; rfl
 intro g vs hgv j hj
 match g, hgv with
 | 0, hgv =>
   have hgv : kindTab = vs := by simpa [laidAt] using hgv
   subst hgv
   have hc := World.var?_cell gTable hvar j
   have : cs[j]? = some kindTab[j] := by rw [← Array.getElem?_toList, hcs, List.getElem?_eq_getElem hj]
   rw [this] at hc
   refine ⟨?_, hc⟩
   unfold World.cell? at hc
   show 0 < W.heap.size
   cases hb : W.heap[0]? with
   | none => simp [hb] at hc
   | some o => exact (Array.getElem?_eq_some_iff.1 hb).1
theorem door_met (os : Os) (args : Array Value) : laidMetH Tryd.prog laidT ((World.doorLaid Tryd.prog 400 os).forCall (fun _ _ => 0) ⟨#[], args, []⟩).memory :=
 laidMetH_of_parts3 (fuel := 8) (laidMet_of_run' 8 (by kernel_rfl) (by kernel_rfl)) (by kernel_rfl) (by kernel_rfl)
end Go.Proofs.YtgdcjkcohmjbeaaDoor
