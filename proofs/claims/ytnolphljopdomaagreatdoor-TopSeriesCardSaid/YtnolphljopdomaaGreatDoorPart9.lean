/-
  The table of contracts, and the closure that Parse defers.
  The table, with Parse.
  Tables of known calls.
-/
import Derived.RecoverIn
import Derived.Recover
import Derived.TacticsIn
import Derived.Test.YtnolphljopdomaaGreatDoorPart8
set_option linter.unusedSimpArgs false
set_option linter.unusedVariables false
set_option linter.unnecessarySimpa false
set_option linter.deprecated false
namespace Go.Avl
open Go Go.Proofs
theorem noNum : NoNum Tryz.prog := fun f fn h => by
 have h1 : (Tryz.prog.funcs.toList.all fun fn => !(fn.name == "runtime.NumGoroutine")) = true := by kernel_rfl
 have h2 := List.all_eq_true.1 h1 fn (by rw [Array.mem_toList_iff]; exact Array.mem_of_getElem? h)
 simpa using h2
theorem mixedOk : Tryz.prog.follows .mixedOrders = true := by kernel_rfl
def cnt1 (s t : ByteArray) : Option AV := match t.data.toList with
 | [c] => some (.sc (.int .i64 (Lib.countByte s.data.toList c)))
 | _ => none
theorem cnt1_ok {s t : ByteArray} {r : AV} (h : cnt1 s t = some r) : PureIs Tryz.prog 53 [.sc (.string s), .sc (.string t)] r := by
 unfold cnt1 at h
 split at h
 ·rename_i c hc
  cases h
  have : t = ⟨#[c]⟩ := by
   obtain ⟨⟨l⟩⟩ := t
   simp only at hc
   subst hc; rfl
  subst this
  exact count_is
 ·cases h
noncomputable def HT : Nat → List AV → Option AV
 | 53, [.sc (.string s), .sc (.string t)] => cnt1 s t
 | 54, [.sc (.string s), .sc (.int .u8 c)] => bif Nat.blt s.size 4611686018427387904 then some (.sc (.int .i64 (Lib.lastIndexByte s c))) else none
 | 93, [.sc (.string s), .sc (.int .u8 c)] => some (.sc (.int .i64 (Lib.indexByte s.data.toList c.toNat.toUInt8)))
 | 59, [.sl _ es _, .sc (.string s)] => match strsOf es with
   | some l => bif Nat.ble l.length 140737488355328 && Nat.ble (joinS l s).length 140737488355328 then some (.sc (.string ⟨(joinS l s).toArray⟩)) else none
   | none => none
 | _, _ => none
noncomputable def tab0 : Tab := ⟨fun f => Nat.beq f 53 || Nat.beq f 54 || Nat.beq f 93 || Nat.beq f 59, HT⟩
theorem tab0_ok : TabOk Tryz.prog tab0 := fun f xs r h => by
 have h : HT f xs = some r := h
 unfold HT at h
 split at h
 ·exact cnt1_ok h
 ·rename_i s c
  rw [blt_dec, bif_inv] at h
  split at h
  ·rename_i hs
   cases h; exact last_is hs
  ·cases h
 ·cases h; exact index_is
 ·rename_i nl es cap s
  split at h
  ·rename_i l hl
   rw [ble_dec, ble_dec, ← Bool.decide_and, bif_inv] at h
   split at h
   ·rename_i hb
    cases h; exact join_is hl hb.1 hb.2
   ·cases h
  ·cases h
 ·cases h
theorem ta60 (w : World) : (Instr.typeAssert Value.nilIface 20 120 true).run Tryz.prog w = .ok (.tuple #[.agg #[.int .i64 0, .int .i64 0], .bool false]) w := by
 simp [Instr.typeAssert, go_sem, Tryz.zeroValue120]
theorem close60 (v0 v1 v2 v3 v4 : Value) (w : World) : CallsDIn Fence.wide 0 Tryz.prog 60 #[v0, v1, v2, v3, v4] .returning w fun e u' w' => (∃ v, e = .returned v) ∧ u' = .returning ∧ ∃ c t, w' = { w with heap := w.heap.push (.cells c t (0, 0)) } := by
 refine callsDIn_of_wpSIn Tryz.func60 rfl trivial fun c₀ cs hu => ?_
 apply wpSIn_seq
 apply wpSIn_region
 simp [wpOpsSIn, go_sem, recoverD, hu, Tryz.ntmps60, Exit.thenS, ta60, Tryz.zeroValue120, Tryz.sizeOf120, Tryz.isAgg120]
 apply wpSIn_seq
 apply wpSIn_seq
 apply wpSIn_region
 simp [wpOpsSIn, go_sem, Exit.thenS]
 refine wpSIn_cond (t := true) (by simp [Act.eval, Array.replicate]) ?_
 simp only [if_true]
 refine wpSIn_of_wpIn rfl (wpIn_ret ?_)
 simp [Exit.thenS, bodyPostS, results, Tryz.results60, hu]
 refine ⟨.returning, by cases c₀; simp_all, rfl, #[.int .i64 0, .int .i64 0], 120, ?_⟩
 simp only [World.alloc, World.setCell]
 try (congr 1)
 all_goals try (
  apply Array.ext
  ·simp
  ·intro i h1 h2
   simp only [Array.getElem_modify, Array.getElem_push]
   split <;> (try split) <;> simp_all
   all_goals (try (obtain ⟨rfl, _, _⟩ := ‹_ ∧ _ ∧ _›; rfl)))
theorem closeOk60 : CloseOk Tryz.prog 60 5 := ⟨callable_of Tryz.func60 (by kernel_rfl) (by kernel_rfl), fun vs w hs => by
 obtain ⟨l⟩ := vs
 match l, hs with
 | [v0, v1, v2, v3, v4], _ => exact close60 v0 v1 v2 v3 v4 w⟩
noncomputable def parseT (xs : List AV) : Option AV := match evPD Tryz.prog tab0 3000 40 16 30 xs with
 | some (r, g, nc) => bif Nat.beq g 60 && Nat.beq nc 5 then some r else none
 | none => none
noncomputable def tab1 : Tab := ⟨fun f => Nat.beq f 30 || tab0.isH f, fun f xs => bif Nat.beq f 30 then parseT xs else HT f xs⟩
theorem tab1_ok : TabOk Tryz.prog tab1 := fun f xs r h0 => by
 have h : (bif Nat.beq f 30 then parseT xs else HT f xs) = some r := h0
 rw [beq_dec, bif_inv] at h
 split at h
 ·rename_i hf
  subst hf
  unfold parseT at h
  split at h
  ·rename_i r' g nc hev
   rw [beq_dec, beq_dec, ← Bool.decide_and, bif_inv] at h
   split at h
   ·rename_i hg
    obtain ⟨rfl, rfl⟩ := hg
    cases h
    exact .evD tab0_ok noNum mixedOk hev closeOk60
   ·cases h
  ·cases h
 ·exact tab0_ok f xs r h
def lEq {α : Type} (f : α → α → Bool) : List α → List α → Bool
 | [], [] => true
 | x :: xs, y :: ys => f x y && lEq f xs ys
 | _, _ => false
theorem lEq_ok {α : Type} {f : α → α → Bool} (hf : ∀ x y, f x y = true → x = y) : ∀ {xs ys : List α}, lEq f xs ys = true → xs = ys
 | [], [], _ => rfl
 | x :: xs, y :: ys, h => by
   simp only [lEq, Bool.and_eq_true] at h
   rw [hf _ _ h.1, lEq_ok hf h.2]
 | [], _ :: _, h => by cases h
 | _ :: _, [], h => by cases h
def bEq (a b : ByteArray) : Bool := lEq (fun x y => Nat.beq x.toNat y.toNat) a.data.toList b.data.toList
theorem bEq_ok {a b : ByteArray} (h : bEq a b = true) : a = b := by
 have h1 := lEq_ok (fun x y h => UInt8.toNat_inj.1 (Nat.eq_of_beq_eq_true h)) h
 obtain ⟨⟨a⟩⟩ := a
 obtain ⟨⟨b⟩⟩ := b
 simp only at h1
 rw [h1]
def vEq : Value → Value → Bool
 | .int k i, .int k' i' => decide (k = k') && decide (i = i')
 | .bool a, .bool b => match a, b with
   | true, true => true
   | false, false => true
   | _, _ => false
 | .string a, .string b => bEq a b
 | .nilIface, .nilIface => true
 | _, _ => false
theorem vEq_ok {v u : Value} (h : vEq v u = true) : v = u := by
 unfold vEq at h
 split at h
 ·simp only [Bool.and_eq_true, decide_eq_true_eq] at h
  rw [h.1, h.2]
 ·split at h <;> first
   | rfl
   | cases h
 ·rw [bEq_ok h]
 ·rfl
 ·cases h
def cEq : Cp → Cp → Bool
 | .unk, .unk => true
 | .zer, .zer => true
 | .full, .full => true
 | .val a, .val b => Nat.beq a b
 | _, _ => false
theorem cEq_ok {a b : Cp} (h : cEq a b = true) : a = b := by
 unfold cEq at h
 split at h
 ·rfl
 ·rfl
 ·rfl
 ·rw [Nat.eq_of_beq_eq_true h]
 ·cases h
def oEq : Bool → Bool → Bool
 | true, true => true
 | false, false => true
 | _, _ => false
theorem oEq_ok {a b : Bool} (h : oEq a b = true) : a = b := by cases a <;> cases b <;> first | rfl | cases h
def avEq : Nat → AV → AV → Bool
 | 0, _, _ => false
 | n + 1, a, b => match a, b with
   | .sc v, .sc u => vEq v u
   | .ag x, .ag y => lEq (avEq n) x y
   | .tu x, .tu y => lEq (avEq n) x y
   | .ia x, .ia y => lEq (avEq n) x y
   | .sl o x c, .sl o' x' c' => oEq o o' && (cEq c c' && lEq (lEq (avEq n)) x x')
   | _, _ => false
theorem avEq_ok : ∀ (n : Nat) (a b : AV), avEq n a b = true → a = b
 | 0, _, _, h => by cases h
 | n + 1, a, b, h => by
   have ih := avEq_ok n
   simp only [avEq] at h
   split at h
   ·rw [vEq_ok h]
   ·rw [lEq_ok ih h]
   ·rw [lEq_ok ih h]
   ·rw [lEq_ok ih h]
   ·simp only [Bool.and_eq_true] at h
    rw [oEq_ok h.1, cEq_ok h.2.1, lEq_ok (fun x y => lEq_ok ih) h.2.2]
   ·cases h
structure Kn where
 f : Nat
 xs : List AV
 r : AV
def lookK : List Kn → Nat → List AV → Option AV
 | [], _, _ => none
 | k :: l, f, xs => bif Nat.beq k.f f && lEq (avEq 20) k.xs xs then some k.r else lookK l f xs
theorem lookK_ok : ∀ {l : List Kn} {f : Nat} {xs : List AV} {r : AV}, lookK l f xs = some r → ∃ k ∈ l, k.f = f ∧ k.xs = xs ∧ k.r = r
 | [], _, _, _, h => by cases h
 | k :: l, f, xs, r, h => by
   simp only [lookK] at h
   cases hb : (Nat.beq k.f f && lEq (avEq 20) k.xs xs)
   ·rw [hb] at h
    obtain ⟨k', h1, h2⟩ := lookK_ok h
    exact ⟨k', List.mem_cons_of_mem _ h1, h2⟩
   ·rw [hb] at h
    cases h
    simp only [Bool.and_eq_true] at hb
    exact ⟨k, List.mem_cons_self, Nat.eq_of_beq_eq_true hb.1, lEq_ok (avEq_ok 20) hb.2, rfl⟩
def tabK (l : List Kn) : Tab := ⟨fun f => l.any fun k => Nat.beq k.f f, lookK l⟩
theorem tabK_ok {P : Program} {l : List Kn} (h : ∀ k ∈ l, PureIs P k.f k.xs k.r) : TabOk P (tabK l) := fun f xs r hr => by
 obtain ⟨k, hk, rfl, rfl, rfl⟩ := lookK_ok hr
 exact h k hk
end Go.Avl
