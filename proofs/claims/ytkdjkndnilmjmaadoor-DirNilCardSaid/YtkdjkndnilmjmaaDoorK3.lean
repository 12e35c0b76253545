/- The texts Dlspec, Dseq, Dlist0, Dlist, Dlist2, one behind the other. -/
import Derived.Test.YtkdjkndnilmjmaaDoorK2
import Derived.Test.YtkdjkndnilmjmaaDoorK1
import Derived.RangeFuncNested
import Derived.RangeFuncBound
import Derived.RangeFuncCalls
import Derived.RangeFuncLeaves
import Derived.RangeFuncBox
import Derived.Shelf.Abstract
import Derived.Shelf.RegionOpen
import Derived.OwnWalkIn
import Derived.TacticsInMore
import Derived.LoopNIn
import Derived.LoopIn
import Derived.Maps.AppendAt
/- dir, in plain words: what List tells. -/
set_option linter.unusedVariables false
set_option linter.unusedSimpArgs false
namespace Go.Proofs.YtkdjkndnilmjmaaDoor.U
open Go.RowKit Go.Proofs Go.Lib

def fitX (p : ByteArray) (x : Ent) : Bool := fitB (bts p) (bts x.name)
def errX (p : ByteArray) (x : Ent) : Int := askE (bts p) (bts x.name)
def bhd (a : ByteArray) (x : Ent) : Bool := decide (a = ⟨#[]⟩) || ah a x.name
def want (p a : ByteArray) (x : Ent) : Bool := bhd a x && fitX p x
def cand (l : List Ent) (p a : ByteArray) : List Ent := l.filter (want p a)
def errL (p : ByteArray) : List Ent → Int
  | [] => 0
  | x :: t => if errX p x = 0 then errL p t else errX p x
/-- The error. -/
def lerr (l : List Ent) (p a : ByteArray) (most : Int) : Int :=
  if most < 0 then 2 else if askE (bts p) [] = 0 then (if errL p l = 0 then (if valid (bts a) = true then 0 else 5) else errL p l) else askE (bts p) []
/-- The names. -/
def lnam (l : List Ent) (p a : ByteArray) (most : Int) : List Ent := if lerr l p a most = 0 then (cand l p a).take most.toNat else []
/-- Are there more? -/
def lmor (l : List Ent) (p a : ByteArray) (most : Int) : Bool := if lerr l p a most = 0 then decide (most.toNat < (cand l p a).length) else false
theorem errL_zero {p : ByteArray} : ∀ {l : List Ent}, (∀ (j : Nat) (x : Ent), l[j]? = some x → errX p x = 0) → errL p l = 0
  | [], _ => rfl
  | x :: t, h => by
    unfold errL
    rw [if_pos (h 0 x rfl)]
    exact errL_zero fun j y hj => h (j + 1) y (by simpa using hj)
theorem errL_first {p : ByteArray} : ∀ {l : List Ent} {i : Nat} {x : Ent}, l[i]? = some x → (∀ (j : Nat) (y : Ent), j < i → l[j]? = some y → errX p y = 0) → errX p x ≠ 0 → errL p l = errX p x
  | [], i, x, h, _, _ => by simp at h
  | y :: t, 0, x, h, _, hx => by
    simp at h
    subst h
    unfold errL
    rw [if_neg hx]
  | y :: t, i + 1, x, h, hb, hx => by
    unfold errL
    rw [if_pos (hb 0 y (by omega) rfl)]
    exact errL_first (l := t) (i := i) (by simpa using h) (fun j z hj hz => hb (j + 1) z (by omega) (by simpa using hz)) hx
theorem errX_ne {p : ByteArray} {x : Ent} : askE (bts p) (bts x.name) = errX p x := rfl
theorem lerr_neg (l : List Ent) (p a : ByteArray) {most : Int} (h : most < 0) : lerr l p a most = 2 := by unfold lerr; rw [if_pos h]
theorem lerr_pat (l : List Ent) (p a : ByteArray) {most : Int} (h : ¬ most < 0) (hp : askE (bts p) [] ≠ 0) : lerr l p a most = askE (bts p) [] := by unfold lerr; rw [if_neg h, if_neg hp]
theorem lerr_one {l : List Ent} {p a : ByteArray} {most : Int} (h : ¬ most < 0) (hp : askE (bts p) [] = 0) {i : Nat} {x : Ent} (hx : l[i]? = some x) (hb : ∀ (j : Nat) (y : Ent), j < i → l[j]? = some y → errX p y = 0) (he : errX p x ≠ 0) : lerr l p a most = errX p x := by
  have := errL_first hx hb he
  unfold lerr
  rw [if_neg h, if_pos hp, this, if_neg he]
theorem lerr_form {l : List Ent} {p a : ByteArray} {most : Int} (h : ¬ most < 0) (hp : askE (bts p) [] = 0) (hb : ∀ (j : Nat) (y : Ent), l[j]? = some y → errX p y = 0) (hv : valid (bts a) = false) : lerr l p a most = 5 := by
  unfold lerr
  rw [if_neg h, if_pos hp, if_pos (errL_zero hb), hv, if_neg (by decide)]
theorem lerr_ok {l : List Ent} {p a : ByteArray} {most : Int} (h : ¬ most < 0) (hp : askE (bts p) [] = 0) (hb : ∀ (j : Nat) (y : Ent), l[j]? = some y → errX p y = 0) (hv : valid (bts a) = true) : lerr l p a most = 0 := by
  unfold lerr
  rw [if_neg h, if_pos hp, if_pos (errL_zero hb), if_pos hv]
/-- What is handed back of a list. -/
def LDone (w : World) (l : List Ent) (p a : ByteArray) (most : Int) (e : Ending) (w' : World) : Prop :=
  ∃ v, e = .returned (.tuple #[v, .bool (lmor l p a most), .int .i64 (lerr l p a most)]) ∧ w'.ownsRow w.heap.size 9 1 v (lnam l p a most).length (strs (lnam l p a most)) ∧ Below w.heap.size w w'
theorem LDone.err {w w' : World} {l : List Ent} {p a : ByteArray} {most E : Int} (h : lerr l p a most = E) (hE : E ≠ 0) (hb : Below w.heap.size w w') : LDone w l p a most (.returned (.tuple #[.slice none 0 0, .bool false, .int .i64 E])) w' := by
  have h1 : lmor l p a most = false := by unfold lmor; rw [if_neg (by rw [h]; exact hE)]
  have h2 : lnam l p a most = [] := by unfold lnam; rw [if_neg (by rw [h]; exact hE)]
  refine ⟨.slice none 0 0, by rw [h1, h], ?_, hb⟩
  rw [h2]
  exact World.ownsRow_nil _ _ _ _
theorem LDone.full {w w' : World} {l : List Ent} {p a : ByteArray} {most : Int} {v : Value} {L : List Ent} (h : lerr l p a most = 0) (hm : most.toNat < (cand l p a).length) (hL : (cand l p a).take most.toNat = L) (hr : w'.ownsRow w.heap.size 9 1 v L.length (strs L)) (hb : Below w.heap.size w w') : LDone w l p a most (.returned (.tuple #[v, .bool true, .int .i64 0])) w' := by
  have h1 : lmor l p a most = true := by unfold lmor; rw [if_pos h, decide_eq_true hm]
  have h2 : lnam l p a most = L := by unfold lnam; rw [if_pos h, hL]
  exact ⟨v, by rw [h1, h], by rw [h2]; exact hr, hb⟩
theorem LDone.all {w w' : World} {l : List Ent} {p a : ByteArray} {most : Int} {v : Value} {L : List Ent} (h : lerr l p a most = 0) (hm : (cand l p a).length ≤ most.toNat) (hL : cand l p a = L) (hr : w'.ownsRow w.heap.size 9 1 v L.length (strs L)) (hb : Below w.heap.size w w') : LDone w l p a most (.returned (.tuple #[v, .bool false, .int .i64 0])) w' := by
  have h1 : lmor l p a most = false := by unfold lmor; rw [if_pos h, decide_eq_false (by omega)]
  have h2 : lnam l p a most = L := by unfold lnam; rw [if_pos h, List.take_of_length_le hm, hL]
  exact ⟨v, by rw [h1, h], by rw [h2]; exact hr, hb⟩
theorem filter_snoc {f : Ent → Bool} {l : List Ent} {i : Nat} {x : Ent} (h : l[i]? = some x) : (l.take (i + 1)).filter f = (l.take i).filter f ++ (if f x then [x] else []) := by
  obtain ⟨h1, h2⟩ := List.getElem?_eq_some_iff.1 h
  rw [List.take_succ_eq_append_getElem h1, h2, List.filter_append]
  congr 1
  by_cases hf : f x = true
  · rw [if_pos hf, List.filter_cons_of_pos hf]; rfl
  · rw [if_neg hf, List.filter_cons_of_neg hf]; rfl
theorem filter_pre (f : Ent → Bool) (l : List Ent) (i : Nat) : (l.take i).filter f <+: l.filter f := by
  have : l.filter f = (l.take i).filter f ++ (l.drop i).filter f := by rw [← List.filter_append, List.take_append_drop]
  rw [this]
  exact List.prefix_append _ _
theorem take_of_pre {a b : List Ent} {m : Nat} (h : a <+: b) (hm : a.length = m) : b.take m = a := by
  obtain ⟨t, rfl⟩ := h
  rw [← hm, List.take_left]
theorem strs_append (a b : List Ent) : strs (a ++ b) = strs a ++ strs b := by simp [strs]
theorem infoS : (Tryd.prog.info? 9).map (fun i => (i.zero, i.size, i.bytes)) = some (some (.string ⟨#[]⟩), 1, 16) := by kernel_rfl
/-- One name more. -/
theorem run_name (w : World) (base : Nat) (ty : TypeId) (v : Value) (a : List Ent) (x : Ent) (V c : Nat) (fz : Nat × Nat) (hown : w.ownsRow base 9 1 v a.length (strs a)) (hV : w.heap[V]? = some (.cells #[.string x.name] 9 fz)) (hn : a.length ≤ 1000000) (hbase : base ≤ w.heap.size) :
    ∃ v' w', (Builtin.append_ #[29, 29] ty #[v, .slice (some ⟨V, 0, none⟩) 1 c]).run Tryd.prog w = .ok v' w' ∧ w'.ownsRow base 9 1 v' (a ++ [x]).length (strs (a ++ [x])) ∧ w.grownBy w' v.ownBlock := by
  obtain ⟨i0, hi, hz0, hz1, hz2⟩ := info_parts infoS
  obtain ⟨v', w', r1, r2, r3, _⟩ := run_append_own (P := Tryd.prog) w base 29 ty 9 i0 _ 1 16 Tryd.underlying29 hi hz0 hz1 hz2 rfl (by decide) v a.length (strs a) hown ⟨V, 0, none⟩ 1 c [.string x.name] rfl (fun j u hj => by
    rw [Addr.add_lit, Nat.zero_add, Lib.cell_of_heap hV]
    match j, hj with
    | 0, hj => exact hj
    | j + 1, hj => simp at hj) (fun u hu => by
    rw [List.mem_singleton.1 hu]
    rfl) (by unfold maxLen; omega) (by omega) hbase
  refine ⟨v', w', r1, ?_, r3⟩
  rw [strs_append, List.length_append, List.length_singleton]
  exact r2
end Go.Proofs.YtkdjkndnilmjmaaDoor.U
/- dir: the names behind one, told by a function. -/
set_option linter.unusedVariables false
set_option linter.unusedSimpArgs false
namespace Go.Proofs.YtkdjkndnilmjmaaDoor.U
open Go.RowKit Go.Proofs Go.Lib Go.Shelf Go.Proofs.YtkdjkndnilmjmaaDoorW.PrintWords
attribute [local go_sem] Oper.semAt_some

/-- All below B but X stands. -/
structure Kb (B X : Nat) (w w' : World) : Prop where
  os : w'.os = w.os
  tape : w'.tape = w.tape
  output : w'.output = w.output
  size : w.heap.size ≤ w'.heap.size
  block : ∀ k : Nat, k < B → k ≠ X → w'.heap[k]? = w.heap[k]?
theorem Kb.refl (B X : Nat) (w : World) : Kb B X w w := ⟨rfl, rfl, rfl, Nat.le_refl _, fun _ _ _ => rfl⟩
theorem Kb.trans {B X : Nat} {a b c : World} (h : Kb B X a b) (k : Kb B X b c) : Kb B X a c := ⟨k.os.trans h.os, k.tape.trans h.tape, k.output.trans h.output, Nat.le_trans h.size k.size, fun i hi hne => (k.block i hi hne).trans (h.block i hi hne)⟩
theorem Kb.of_below {B X : Nat} {a b : World} (h : Below a.heap.size a b) (hB : B ≤ a.heap.size) : Kb B X a b := ⟨h.os, h.tape, h.output, h.size, fun k hk _ => h.block k (by omega)⟩
theorem Kb.of_grown {B X : Nat} {a b : World} {row : Option Nat} (h : a.grownBy b row) (hB : B ≤ a.heap.size) (hr : ∀ r, row = some r → r = X ∨ B ≤ r) : Kb B X a b := ⟨h.os, h.tape, h.output, h.size, fun k hk hne => h.block k (by omega) (fun e => by
  rcases hr k e.symm with h1 | h1
  · exact hne h1
  · omega)⟩
theorem Kb.below {B X n : Nat} {a b : World} (h : Kb B X a b) (h1 : n ≤ X) (h2 : n ≤ B) : Below n a b := ⟨h.os, h.tape, h.output, h.size, fun k hk => h.block k (by omega) (by omega)⟩
theorem Kb.cell {B X k o : Nat} {a b : World} (h : Kb B X a b) (hk : k < B) (hne : k ≠ X) : b.cell? ⟨k, o, none⟩ = a.cell? ⟨k, o, none⟩ := World.cell?_of_block (a := ⟨k, o, none⟩) (h.block k hk hne)
theorem grown_of_below {a b : World} (h : Below a.heap.size a b) : a.grownBy b none := ⟨h.os, h.tape, h.output, h.size, fun k hk _ => h.block k hk⟩
abbrev Nam := { s : ByteArray // s.size ≤ 1048576 }
def bhN (a : ByteArray) (s : Nam) : Bool := decide (a = ⟨#[]⟩) || ah a s.1
theorem nam_snoc {f : Nam → Bool} {l : List Nam} {i : Nat} {x : Nam} (h : l[i]? = some x) : (l.take (i + 1)).filter f = (l.take i).filter f ++ (if f x then [x] else []) := by
  obtain ⟨h1, h2⟩ := List.getElem?_eq_some_iff.1 h
  rw [List.take_succ_eq_append_getElem h1, h2, List.filter_append]
  congr 1
  by_cases hf : f x = true
  · rw [if_pos hf, List.filter_cons_of_pos hf]; rfl
  · rw [if_neg hf, List.filter_cons_of_neg hf]; rfl
theorem nam_pre (f : Nam → Bool) (l : List Nam) (i : Nat) : (l.take i).filter f <+: l.filter f := by
  have : l.filter f = (l.take i).filter f ++ (l.drop i).filter f := by rw [← List.filter_append, List.take_append_drop]
  rw [this]
  exact List.prefix_append _ _
set_option maxHeartbeats 4000000 in
set_option maxRecDepth 1000000 in
theorem behind_calls (d : Option Addr) (a : ByteArray) (w : World) :
    Calls Tryd.prog 28 #[.pointer d, .string a] w fun e w' => e = .returned (.func (.func 46) #[] #[.pointer (some ⟨w.heap.size, 0, none⟩), .pointer (some ⟨w.heap.size + 1, 0, none⟩)]) ∧ w' = (w.alloc (.cells #[.pointer d] 23)).alloc (.cells #[.string a] 9) := by
  go_enter Tryd.func28, Tryd.ntmps28
  go_wp2
  go_ret
  exact ⟨rfl, rfl⟩
set_option maxHeartbeats 4000000 in
set_option maxRecDepth 1000000 in
theorem behind1_in (n : Nat) (hn : 1 ≤ n) (lp Bd Ba B X N c D : Nat) (A : Option Addr) (a : ByteArray) (ns : List Nam) (hN : ns.length = N) (hN2 : N ≤ 1000000) (ha : a.size ≤ 1048576) (J Jx : List Nam → World → Prop)
    (W : World) (hJ : AbidesFrom W.heap.size J)
    (hY : ∀ pre x W1, J pre W1 → pre.length < (ns.filter (bhN a)).length → YieldAt Fence.wide (n - 1) Tryd.prog lp #[.string x.1] W1 fun e W' =>
      (e = .returned (.bool true) ∧ J (pre ++ [x]) W' ∧ Kb B X W1 W') ∨ (e = .returned (.bool false) ∧ Jx (pre ++ [x]) W'))
    (hBW : B ≤ W.heap.size) (hBa : Ba < B) (hBx : Ba ≠ X)
    (q0 : W.cell? ⟨Bd, 0, none⟩ = some (.pointer (some ⟨D, 0, none⟩))) (q1 : W.cell? ⟨D, 0, none⟩ = some (.slice A N c)) (q2 : W.cell? ⟨Ba, 0, none⟩ = some (.string a))
    (hrow : ∀ W', Kb B X W W' → ∀ i x, ns[i]? = some x → ∃ g, A = some ⟨g, 0, none⟩ ∧ W'.cell? ⟨g, i, none⟩ = some (.string x.1)) (h0 : J [] W) :
    CallsIn Fence.wide n Tryd.prog 46 #[.func (.yield lp) #[] #[], .pointer (some ⟨Bd, 0, none⟩), .pointer (some ⟨Ba, 0, none⟩)] W fun e W' => (∃ v, e = .returned v) ∧
      ((∃ ys, ys = ns.filter (bhN a) ∧ J ys W') ∨ (∃ pre, pre <+: ns.filter (bhN a) ∧ Jx pre W')) := by
  have HJ := Lib.hid hJ
  have HY := Lib.hid hY
  have HROW := Lib.hid hrow
  have HN := Lib.hid hN
  clear hJ hY hrow hN
  refine callsIn_of_wp Tryd.func46 rfl trivial ?_ rfl
  simp only [Tryd.ntmps46, List.size_toArray, List.length_cons, List.length_nil, Nat.reduceAdd, Nat.reduceSub, Array.replicate_succ, Array.replicate_zero, List.push_toArray, List.append_toArray, List.nil_append, List.cons_append]
  gi_wp2
  gi_loopw [11] (fun i wr => ∃ k : Nat, k ≤ N ∧ i = .int .i64 (k : Int) ∧ J ((ns.take k).filter (bhN a)) wr ∧ Kb B X W wr)
    (fun i _ => N - (RowKit.intOf i).toNat)
  case atStart => exact ⟨0, Nat.zero_le _, rfl, by simpa using h0, Kb.refl _ _ _⟩
  case round =>
    obtain ⟨k, hk, rfl, hJs, hkb⟩ := hrel
    by_cases hlt : k < N
    · have d1 : decide ((k : Int) < (N : Int)) = true := by simp; omega
      have i1 : (k : Int) < (N : Int) := by omega
      obtain ⟨x, hx⟩ : ∃ x, ns[k]? = some x := ⟨_, List.getElem?_eq_getElem (by rw [HN.out]; exact hlt)⟩
      obtain ⟨g, rfl, q3⟩ := HROW.out _ hkb k x hx
      have q4 : wr.cell? ⟨Ba, 0, none⟩ = some (.string a) := (hkb.cell hBa hBx).trans q2
      have HX := Lib.hid hx
      have hsn := nam_snoc (f := bhN a) hx
      have hpl := (nam_pre (bhN a) ns (k + 1)).length_le
      by_cases hae : a = ⟨#[]⟩
      · have hwt : bhN a x = true := by unfold bhN; rw [decide_eq_true hae]; rfl
        rw [hwt, if_pos rfl] at hsn
        rw [hsn, List.length_append, List.length_singleton] at hpl
        have HSN := Lib.hid hsn
        obtain ⟨fn, tmps, assign, body, hy, hR⟩ := HY.out _ x wr hJs (by omega)
        try dsimp only at hy
        have HKB := Lib.hid hkb
        clear hsn hpl hwt hx hJs hkb
        subst hae
        gi_wp2
        refine ⟨trivial, ?_⟩
        gi_wp2
        refine hR.mono ?_
        rintro e W3 (⟨rfl, hJ3, hk3⟩ | ⟨rfl, hJx3⟩)
        · have HB3 := Lib.hid (HKB.out.trans hk3)
          have HJ3 := Lib.hid hJ3
          clear hJ3 hk3 hR
          gi_wp2
          go_roundw
          case rel => exact ⟨k + 1, by omega, by rw [Int.natCast_succ], by rw [HSN.out]; exact HJ3.out, HB3.out⟩
          case measure => simp only [RowKit.intOf, Int.toNat_natCast]; omega
        · have HJX := Lib.hid hJx3
          clear hJx3 hR
          gi_wp2
          refine bodyPost_ret (results_none rfl _ _ _) rfl ?_
          exact ⟨⟨_, rfl⟩, .inr ⟨_, by rw [← HSN.out]; exact nam_pre _ _ _, HJX.out⟩⟩
      · have d2 := list_ne hae
        have d3 := list_ne2 hae
        have cA := Ahead_calls a x.1 wr (by omega) (by have := x.2; omega)
        obtain ⟨b, hb⟩ : ∃ b, ah a x.1 = b := ⟨_, rfl⟩
        rw [show aheadB a.data.toList x.1.data.toList = b from hb] at cA
        have hwt : bhN a x = b := by unfold bhN; rw [decide_eq_false hae, hb]; simp
        have CA := Lib.hid cA
        have HKB := Lib.hid hkb
        have HJS := Lib.hid hJs
        have HWT := Lib.hid hwt
        have HSN := Lib.hid hsn
        have HPL := Lib.hid hpl
        clear hsn hpl hwt hx hJs hkb hb cA hae
        gi_wp2_with fail
        refine ⟨trivial, ?_⟩
        refine (callsIn_wide.2 CA.out).mono ?_
        rintro e w5 ⟨rfl, hb5⟩
        have HJ5 := Lib.hid (HJ.out _ _ _ none HJS.out (grown_of_below hb5) (fun r e => by cases e))
        have HKB5 := Lib.hid (HKB.out.trans (Kb.of_below hb5 (Nat.le_trans hBW HKB.out.size)))
        clear hb5 CA
        have hsn := HSN.out
        have hpl := HPL.out
        rw [HWT.out] at hsn
        cases b with
        | false =>
          rw [if_neg (by decide), List.append_nil] at hsn
          have HS2 := Lib.hid hsn
          clear hsn hpl
          gi_wp2
          go_roundw
          case rel => exact ⟨k + 1, by omega, by rw [Int.natCast_succ], by rw [HS2.out]; exact HJ5.out, HKB5.out⟩
          case measure => simp only [RowKit.intOf, Int.toNat_natCast]; omega
        | true =>
          rw [if_pos rfl] at hsn
          rw [hsn, List.length_append, List.length_singleton] at hpl
          have HS2 := Lib.hid hsn
          obtain ⟨fn, tmps, assign, body, hy, hR⟩ := HY.out _ x w5 HJ5.out (by omega)
          clear hsn hpl
          gi_wp2
          refine hR.mono ?_
          rintro e W3 (⟨rfl, hJ3, hk3⟩ | ⟨rfl, hJx3⟩)
          · have HB3 := Lib.hid (HKB5.out.trans hk3)
            have HJ3 := Lib.hid hJ3
            clear hJ3 hk3 hR
            gi_wp2
            go_roundw
            case rel => exact ⟨k + 1, by omega, by rw [Int.natCast_succ], by rw [HS2.out]; exact HJ3.out, HB3.out⟩
            case measure => simp only [RowKit.intOf, Int.toNat_natCast]; omega
          · have HJX := Lib.hid hJx3
            clear hJx3 hR
            gi_wp2
            refine bodyPost_ret (results_none rfl _ _ _) rfl ?_
            exact ⟨⟨_, rfl⟩, .inr ⟨_, by rw [← HS2.out]; exact nam_pre _ _ _, HJX.out⟩⟩
    · obtain rfl : k = N := by omega
      have d1 : decide ((k : Int) < (k : Int)) = false := by simp
      have hfin : (ns.take k).filter (bhN a) = ns.filter (bhN a) := by rw [List.take_of_length_le (by rw [HN.out]; omega)]
      rw [hfin] at hJs
      have HFIN := Lib.hid hJs
      clear hfin hJs
      gi_wp2
      go_end0
      exact ⟨⟨_, rfl⟩, .inl ⟨_, rfl, HFIN.out⟩⟩
end Go.Proofs.YtkdjkndnilmjmaaDoor.U
/- dir: List's refusals; what its loop keeps. -/
set_option linter.unusedVariables false
set_option linter.unusedSimpArgs false
namespace Go.Proofs.YtkdjkndnilmjmaaDoor.U
open Go.RowKit Go.Proofs Go.Lib Go.Shelf Go.Proofs.YtkdjkndnilmjmaaDoorW.PrintWords

/-- The boxes of List's variables. -/
structure Bx (w W : World) (p : ByteArray) (most : Int) (vn : Value) (mo : Bool) (er : Int) : Prop where
  p : Boxed W w.heap.size 9 (.string p)
  m : Boxed W (w.heap.size + 1) 3 (.int .i64 most)
  n : Boxed W (w.heap.size + 1 + 1) 29 vn
  o : Boxed W (w.heap.size + 1 + 1 + 1) 4 (.bool mo)
  e : Boxed W (w.heap.size + 1 + 1 + 1 + 1) 30 (.int .i64 er)
  b : Below w.heap.size w W
theorem Bx.new (w : World) (p : ByteArray) (most : Int) : Bx w (((((w.alloc (.cells #[.string p] 9)).alloc (.cells #[.int .i64 most] 3)).alloc (.cells #[.slice none 0 0] 29)).alloc (.cells #[.bool false] 4)).alloc (.cells #[.int .i64 0] 30)) p most (.slice none 0 0) false 0 := by
  have b0 := Boxed.new w 9 (.string p)
  obtain ⟨x0, h0⟩ : ∃ x, w.alloc (.cells #[.string p] 9) = x := ⟨_, rfl⟩
  have s0 : x0.heap.size = w.heap.size + 1 := by rw [← h0]; simp
  have g0 : Below w.heap.size w x0 := by rw [← h0]; exact (Below.refl _ _).alloc (Nat.le_refl _) _
  rw [h0] at b0 ⊢
  have b1 := Boxed.new x0 3 (.int .i64 most)
  obtain ⟨x1, h1⟩ : ∃ x, x0.alloc (.cells #[.int .i64 most] 3) = x := ⟨_, rfl⟩
  have s1 : x1.heap.size = w.heap.size + 1 + 1 := by rw [← h1, World.size_alloc, s0]
  have g1 : Below w.heap.size w x1 := by rw [← h1]; exact g0.alloc g0.size _
  have b01 := b0.alloc (.cells #[.int .i64 most] 3)
  rw [h1] at b1 b01 ⊢
  have b2 := Boxed.new x1 29 (.slice none 0 0)
  obtain ⟨x2, h2⟩ : ∃ x, x1.alloc (.cells #[.slice none 0 0] 29) = x := ⟨_, rfl⟩
  have s2 : x2.heap.size = w.heap.size + 1 + 1 + 1 := by rw [← h2, World.size_alloc, s1]
  have g2 : Below w.heap.size w x2 := by rw [← h2]; exact g1.alloc g1.size _
  have b02 := b01.alloc (.cells #[.slice none 0 0] 29)
  have b12 := b1.alloc (.cells #[.slice none 0 0] 29)
  rw [h2] at b2 b02 b12 ⊢
  have b3 := Boxed.new x2 4 (.bool false)
  obtain ⟨x3, h3⟩ : ∃ x, x2.alloc (.cells #[.bool false] 4) = x := ⟨_, rfl⟩
  have s3 : x3.heap.size = w.heap.size + 1 + 1 + 1 + 1 := by rw [← h3, World.size_alloc, s2]
  have g3 : Below w.heap.size w x3 := by rw [← h3]; exact g2.alloc g2.size _
  have b03 := b02.alloc (.cells #[.bool false] 4)
  have b13 := b12.alloc (.cells #[.bool false] 4)
  have b23 := b2.alloc (.cells #[.bool false] 4)
  rw [h3] at b3 b03 b13 b23 ⊢
  have b4 := Boxed.new x3 30 (.int .i64 0)
  rw [s0] at b13
  rw [s1] at b23
  rw [s2] at b3
  rw [s3] at b4
  exact ⟨b03.alloc _, b13.alloc _, b23.alloc _, b3.alloc _, b4, g3.alloc g3.size _⟩
section
variable {w W W' : World} {p : ByteArray} {most er : Int} {vn : Value} {mo : Bool}
theorem boxed_kept {B : Nat} {t : TypeId} {v : Value} (h : Boxed W B t v) (hb : Below W.heap.size W W') : Boxed W' B t v := kept_below hb _ _ h
theorem Bx.below (h : Bx w W p most vn mo er) (hb : Below W.heap.size W W') : Bx w W' p most vn mo er :=
  ⟨boxed_kept h.p hb, boxed_kept h.m hb, boxed_kept h.n hb, boxed_kept h.o hb, boxed_kept h.e hb, h.b.trans (hb.mono h.b.size)⟩
theorem boxed_other {B k : Nat} {t : TypeId} {v : Value} (h : Boxed W B t v) (hne : B ≠ k) (u : Value) : Boxed (W.setCell ⟨k, 0, none⟩ u) B t v := (Below.heap_setCell W ⟨k, 0, none⟩ u B hne).trans h
theorem Bx.setN (h : Bx w W p most vn mo er) (u : Value) : Bx w (W.setCell ⟨w.heap.size + 1 + 1, 0, none⟩ u) p most u mo er :=
  ⟨boxed_other h.p (by omega) u, boxed_other h.m (by omega) u, h.n.set u, boxed_other h.o (by omega) u, boxed_other h.e (by omega) u, h.b.setCell (p := ⟨w.heap.size + 1 + 1, 0, none⟩) (by show w.heap.size ≤ w.heap.size + 1 + 1; omega) _⟩
theorem Bx.setO (h : Bx w W p most vn mo er) (u : Bool) : Bx w (W.setCell ⟨w.heap.size + 1 + 1 + 1, 0, none⟩ (.bool u)) p most vn u er :=
  ⟨boxed_other h.p (by omega) _, boxed_other h.m (by omega) _, boxed_other h.n (by omega) _, h.o.set _, boxed_other h.e (by omega) _, h.b.setCell (p := ⟨w.heap.size + 1 + 1 + 1, 0, none⟩) (by show w.heap.size ≤ w.heap.size + 1 + 1 + 1; omega) _⟩
theorem Bx.setE (h : Bx w W p most vn mo er) (u : Int) : Bx w (W.setCell ⟨w.heap.size + 1 + 1 + 1 + 1, 0, none⟩ (.int .i64 u)) p most vn mo u :=
  ⟨boxed_other h.p (by omega) _, boxed_other h.m (by omega) _, boxed_other h.n (by omega) _, boxed_other h.o (by omega) _, h.e.set _, h.b.setCell (p := ⟨w.heap.size + 1 + 1 + 1 + 1, 0, none⟩) (by show w.heap.size ≤ w.heap.size + 1 + 1 + 1 + 1; omega) _⟩
end
theorem List_results (w : World) (tmps : Array Value) {b2 b3 b4 : Nat} (h8 : tmps.getD 8 undef = .pointer (some ⟨b2, 0, none⟩)) (h9 : tmps.getD 9 undef = .pointer (some ⟨b3, 0, none⟩)) (h10 : tmps.getD 10 undef = .pointer (some ⟨b4, 0, none⟩)) {vn : Value} {mo : Bool} {er : Int}
    (c2 : w.cell? ⟨b2, 0, none⟩ = some vn) (c3 : w.cell? ⟨b3, 0, none⟩ = some (.bool mo)) (c4 : w.cell? ⟨b4, 0, none⟩ = some (.int .i64 er)) :
    (results Tryd.f12 tmps).run Tryd.prog w = .ok (.tuple #[vn, .bool mo, .int .i64 er]) w := by
  simp only [results, Tryd.results12]
  rw [Array.getD_eq_getD_getElem?] at h8 h9 h10
  simp [go_sem, h8, h9, h10, c2, c3, c4]
set_option maxHeartbeats 8000000 in
set_option maxRecDepth 1000000 in
theorem List_neg {w : World} {base D M q : Nat} {l : List Ent} {vN : Value} (p a : ByteArray) (most : Int) (h : DirAt w base D M l vN q) (h0 : most < 0) :
    Calls Tryd.prog 12 #[.pointer (some ⟨D, 0, none⟩), .string p, .string a, .int .i64 most] w fun e w' => LDone w l p a most e w' := by
  have HD := Lib.hid (fun w' => LDone.err (w := w) (w' := w') (lerr_neg l p a h0) (by decide))
  have HC : Hid (∀ W, Below w.heap.size w W → W.cell? ⟨D, 1, none⟩ = some (.map (some M))) := Lib.hid (fun W hW => (h.below hW).c1)
  clear h
  go_enter Tryd.func12, Tryd.ntmps12
  go_wp2_with fail
  refine (off_on D M _ (HC.out _ (Bx.new w p most).b)).mono ?_
  rintro e w5 ⟨rfl, hw5⟩
  have hx : Bx w w5 p most (.slice none 0 0) false 0 := by rw [hw5]; exact Bx.new w p most
  clear hw5
  have q1 := hx.m.cell
  have q2 := hx.n.cell
  have q3 := hx.o.cell
  have q4 := hx.e.cell
  have f2 := hx.n.frozen
  have f3 := hx.o.frozen
  have f4 := hx.e.frozen
  have HFIN := Lib.hid (((hx.setN (.slice none 0 0)).setO false).setE 2)
  clear hx
  go_wp2
  refine bodyPost_ret (List_results _ _ rfl rfl rfl HFIN.out.n.cell HFIN.out.o.cell HFIN.out.e.cell) rfl ?_
  exact HD.out _ HFIN.out.b
set_option maxHeartbeats 8000000 in
set_option maxRecDepth 1000000 in
theorem List_pat {w : World} {base D M q : Nat} {l : List Ent} {vN : Value} (p a : ByteArray) (m : Nat) (hp : p.size ≤ 1048576) (h : DirAt w base D M l vN q) (hE : askE (bts p) [] ≠ 0) (hT : Tabs w) :
    Calls Tryd.prog 12 #[.pointer (some ⟨D, 0, none⟩), .string p, .string a, .int .i64 (m : Int)] w fun e w' => LDone w l p a m e w' := by
  have d0 : decide ((m : Int) < 0) = false := by simp
  have HD := Lib.hid (fun w' => LDone.err (w := w) (w' := w') (most := (m : Int)) (lerr_pat l p a (by omega) hE) hE)
  have c1 := fun W (hW : Below w.heap.size w W) => Fits_calls p ⟨#[]⟩ W (by omega) (by decide) (hT.below hW)
  obtain ⟨E, hEE⟩ : ∃ E, askE (bts p) [] = E := ⟨_, rfl⟩
  rw [show askE p.data.toList (⟨#[]⟩ : ByteArray).data.toList = E from hEE] at c1
  rw [hEE] at hE HD
  have d2 : (E == 0) = false := by simpa using hE
  have d3 : (E != 0) = true := by simpa using hE
  have C1 := Lib.hid c1
  have HC : Hid (∀ W, Below w.heap.size w W → W.cell? ⟨D, 1, none⟩ = some (.map (some M))) := Lib.hid (fun W hW => (h.below hW).c1)
  clear h c1 hT hE hEE
  go_enter Tryd.func12, Tryd.ntmps12
  go_wp2_with fail
  refine (off_on D M _ (HC.out _ (Bx.new w p m).b)).mono ?_
  rintro e w5 ⟨rfl, hw5⟩
  have hx : Bx w w5 p m (.slice none 0 0) false 0 := by rw [hw5]; exact Bx.new w p m
  clear hw5
  have q0 := hx.p.cell
  have q1 := hx.m.cell
  have HX := Lib.hid hx
  clear hx
  go_wp2_with fail
  refine (C1.out _ HX.out.b).mono ?_
  rintro e w6 ⟨rfl, hb⟩
  have hx := HX.out.below hb
  have q2 := hx.n.cell
  have q3 := hx.o.cell
  have q4 := hx.e.cell
  have f2 := hx.n.frozen
  have f3 := hx.o.frozen
  have f4 := hx.e.frozen
  have HFIN := Lib.hid (((hx.setN (.slice none 0 0)).setO false).setE E)
  clear hx hb q0 q1
  go_wp2
  refine bodyPost_ret (List_results _ _ rfl rfl rfl HFIN.out.n.cell HFIN.out.o.cell HFIN.out.e.cell) rfl ?_
  exact HD.out _ HFIN.out.b
end Go.Proofs.YtkdjkndnilmjmaaDoor.U
/- dir: List. -/
set_option linter.unusedVariables false
set_option linter.unusedSimpArgs false
namespace Go.Proofs.YtkdjkndnilmjmaaDoor.U
open Go.RowKit Go.Proofs Go.Lib Go.Shelf Go.Proofs.YtkdjkndnilmjmaaDoorW.PrintWords
attribute [local go_sem] Oper.semAt_some

def nams (l : List Ent) (hz : ∀ x ∈ l, x.name.size ≤ 1048576) : List Nam := l.pmap (fun x h => ⟨x.name, h⟩) hz
theorem nams_len (l : List Ent) (hz : ∀ x ∈ l, x.name.size ≤ 1048576) : (nams l hz).length = l.length := List.length_pmap
theorem nams_at {l : List Ent} {hz : ∀ x ∈ l, x.name.size ≤ 1048576} {i : Nat} {y : Nam} (h : (nams l hz)[i]? = some y) : ∃ x, l[i]? = some x ∧ y.1 = x.name := by
  obtain ⟨h1, h2⟩ := List.getElem?_eq_some_iff.1 h
  have h3 : i < l.length := by rw [← nams_len l hz]; exact h1
  refine ⟨l[i], List.getElem?_eq_getElem h3, ?_⟩
  rw [← h2]
  simp [nams]
def fN (p : ByteArray) (s : Nam) : Bool := fitB (bts p) (bts s.1)
def strN (l : List Nam) : List Value := l.map fun s => .string s.1
theorem strN_append (a b : List Nam) : strN (a ++ b) = strN a ++ strN b := by simp [strN]
theorem strN_len (a : List Nam) : (strN a).length = a.length := by simp [strN]
theorem strN_cand (p a : ByteArray) : ∀ (l : List Ent) (hz : ∀ x ∈ l, x.name.size ≤ 1048576), strN (((nams l hz).filter (bhN a)).filter (fN p)) = strs (cand l p a)
  | [], _ => rfl
  | x :: t, hz => by
    have ih := strN_cand p a t (fun y hy => hz y (List.mem_cons_of_mem _ hy))
    have e : nams (x :: t) hz = (⟨x.name, hz x List.mem_cons_self⟩ : Nam) :: nams t (fun y hy => hz y (List.mem_cons_of_mem _ hy)) := rfl
    rw [e]
    unfold cand at ih ⊢
    have ew : want p a x = (bhN a ⟨x.name, hz x List.mem_cons_self⟩ && fN p ⟨x.name, hz x List.mem_cons_self⟩) := rfl
    by_cases h1 : bhN a ⟨x.name, hz x List.mem_cons_self⟩ = true
    · rw [List.filter_cons_of_pos h1]
      by_cases h2 : fN p ⟨x.name, hz x List.mem_cons_self⟩ = true
      · rw [List.filter_cons_of_pos h2, List.filter_cons_of_pos (by rw [ew, h1, h2]; rfl)]
        show Value.string x.name :: strN _ = Value.string x.name :: strs _
        rw [ih]
      · rw [List.filter_cons_of_neg h2, List.filter_cons_of_neg (by rw [ew, h1]; simpa using h2), ih]
    · rw [List.filter_cons_of_neg h1, List.filter_cons_of_neg (by rw [ew]; simp [h1]), ih]
theorem with_act {F : Fence} {n : Nat} {P : Program} {c : Code} {Q : Exit → Act → World → Prop} {a : Act} {w : World} (h : ∀ aa, aa = a → c.wpIn F n P Q aa w) : c.wpIn F n P Q a w := h a rfl
section
variable {w W W' : World} {p : ByteArray} {most er : Int} {vn : Value} {mo : Bool} {B X : Nat}
/-- A block that is no cells, new since B, is turned. -/
def Turn (B : Nat) (W W' : World) : Prop := ∃ row, W.grownBy W' row ∧ ∀ r, row = some r → B ≤ r ∧ ∃ o : Obj, W.heap[r]? = some o ∧ o.isCells = false
theorem Turn.keeps (h : Turn B W W') {k : Nat} {cs : Array Value} {t : TypeId} {fz : Nat × Nat} (hk : W.heap[k]? = some (.cells cs t fz)) : W'.heap[k]? = some (.cells cs t fz) := by
  obtain ⟨row, hg, hr⟩ := h
  refine (hg.block k (Array.getElem?_eq_some_iff.1 hk).1 fun e => ?_).trans hk
  obtain ⟨_, o, ho, hc⟩ := hr k e.symm
  rw [hk] at ho
  cases ho
  cases hc
theorem Turn.own (h : Turn B W W') {base : Nat} {e : TypeId} {size n : Nat} {v : Value} {xs : List Value} (ho : W.ownsRow base e size v n xs) : W'.ownsRow base e size v n xs := own_stay ho fun k hk => by
  obtain ⟨cs, hc⟩ := own_type ho k hk
  rw [h.keeps hc, hc]
theorem Turn.bx (h : Turn B W W') (hB : w.heap.size ≤ B) (hx : Bx w W p most vn mo er) : Bx w W' p most vn mo er := by
  refine ⟨h.keeps hx.p, h.keeps hx.m, h.keeps hx.n, h.keeps hx.o, h.keeps hx.e, ?_⟩
  obtain ⟨row, hg, hr⟩ := h
  exact hx.b.grown hg hx.b.size (fun k e => Nat.le_trans hB (hr k e).1)
theorem Turn.kb {W0 : World} (h : Turn B W W') (hB : B ≤ W.heap.size) (hk : Kb B X W0 W) : Kb B X W0 W' := by
  obtain ⟨row, hg, hr⟩ := h
  exact hk.trans (Kb.of_grown hg hB fun r e => .inr (hr r e).1)
theorem turn_put {l : Nat} {o : Obj} (o' : Obj) (hl : W.heap[l]? = some o) (ho : o.isCells = false) (hB : B ≤ l) : Turn B W (W.putObj l o') := ⟨some l, grownBy_putObj' W l o', fun r e => by cases e; exact ⟨hB, o, hl, ho⟩⟩
theorem keeps_below (hb : Below W.heap.size W W') : KeepsOthers W W' := ⟨hb.size, fun k o hk _ => (hb.block k (Array.getElem?_eq_some_iff.1 hk).1).trans hk⟩
end
/-- Between two rounds. -/
structure Inv (w WL : World) (p : ByteArray) (m : Nat) (pre : List Nam) (W : World) : Prop where
  le : (pre.filter (fN p)).length ≤ m
  kb : Kb WL.heap.size (w.heap.size + 1 + 1) WL W
  row : ∃ v, W.ownsRow WL.heap.size 9 1 v (pre.filter (fN p)).length (strN (pre.filter (fN p))) ∧ Bx w W p m v false 0
/-- A round has said: more. -/
structure Out (w WL : World) (p : ByteArray) (m : Nat) (pre : List Nam) (W : World) : Prop where
  row : ∃ ini x v, pre = ini ++ [x] ∧ fN p x = true ∧ (ini.filter (fN p)).length = m ∧ W.ownsRow WL.heap.size 9 1 v m (strN (ini.filter (fN p))) ∧ Bx w W p m v true 0
theorem Inv.own {w WL : World} {p : ByteArray} {m : Nat} (h1 : w.heap.size ≤ WL.heap.size) : OwnFrom WL.heap.size (Inv w WL p m) := fun pre W W' row h hg hr => by
  have ht : Turn WL.heap.size W W' := ⟨row, hg, hr⟩
  obtain ⟨v, ho, hx⟩ := h.row
  exact ⟨h.le, ht.kb h.kb.size h.kb, v, ht.own ho, ht.bx h1 hx⟩
theorem Out.own {w WL : World} {p : ByteArray} {m : Nat} (h1 : w.heap.size ≤ WL.heap.size) : OwnFrom WL.heap.size (Out w WL p m) := fun pre W W' row h hg hr => by
  have ht : Turn WL.heap.size W W' := ⟨row, hg, hr⟩
  obtain ⟨ini, x, v, e1, e2, e3, ho, hx⟩ := h.row
  exact ⟨ini, x, v, e1, e2, e3, ht.own ho, ht.bx h1 hx⟩
theorem own_on {W W' : World} {base : Nat} {e : TypeId} {size n : Nat} {v : Value} {xs : List Value} (h : W.ownsRow base e size v n xs) (hb : Below W.heap.size W W') : W'.ownsRow base e size v n xs := own_stay h fun k hk => by
  obtain ⟨cs, hc⟩ := own_type h k hk
  rw [kept_below hb _ _ hc, hc]
theorem own_low {W : World} {base b0 : Nat} {e : TypeId} {size n : Nat} {v : Value} {xs : List Value} (h : W.ownsRow base e size v n xs) (hb : b0 ≤ base) : W.ownsRow b0 e size v n xs := by
  obtain ⟨h1, h2⟩ := h
  refine ⟨h1, ?_⟩
  rcases h2 with h2 | ⟨g, cap, cur, rfl, hg, r⟩
  · exact .inl h2
  · exact .inr ⟨g, cap, cur, rfl, Nat.le_trans hb hg, r⟩
theorem own_set {W : World} {base k : Nat} {e : TypeId} {size n : Nat} {v : Value} {xs : List Value} (h : W.ownsRow base e size v n xs) (hk : k < base) (u : Value) : (W.setCell ⟨k, 0, none⟩ u).ownsRow base e size v n xs := own_stay h fun j hj => by
  have := (h.lt j hj).1
  exact Below.heap_setCell W ⟨k, 0, none⟩ u j (by show j ≠ k; omega)
theorem boxed_grown {W W' : World} {row : Option Nat} {B : Nat} {t : TypeId} {v : Value} (h : Boxed W B t v) (hg : W.grownBy W' row) (hr : ∀ r, row = some r → B < r) : Boxed W' B t v := h.kept hg (fun e => by have := hr B e.symm; omega)
theorem Bx.grown {w W W' : World} {p : ByteArray} {most er : Int} {vn : Value} {mo : Bool} {row : Option Nat} (h : Bx w W p most vn mo er) (hg : W.grownBy W' row) (hr : ∀ r, row = some r → w.heap.size + 1 + 1 + 1 + 1 < r) : Bx w W' p most vn mo er :=
  ⟨boxed_grown h.p hg (fun r e => by have := hr r e; omega), boxed_grown h.m hg (fun r e => by have := hr r e; omega), boxed_grown h.n hg (fun r e => by have := hr r e; omega), boxed_grown h.o hg (fun r e => by have := hr r e; omega), boxed_grown h.e hg hr, h.b.grown hg h.b.size (fun r e => by have := hr r e; omega)⟩
theorem append_done {w W w1 : World} {p : ByteArray} {m er : Int} {v v' : Value} {mo : Bool} {B n n' : Nat} {xs ys : List Value} {tmp : Obj} (hx : Bx w W p m v mo er) (hrow : W.ownsRow B 9 1 v n xs) (hB : B ≤ W.heap.size) (hh : w.heap.size + 1 + 1 + 1 + 1 < B)
    (hg : (W.alloc tmp).grownBy w1 v.ownBlock) (hown : w1.ownsRow B 9 1 v' n' ys) :
    Bx w w1 p m v mo er ∧ Bx w (w1.setCell ⟨w.heap.size + 1 + 1, 0, none⟩ v') p m v' mo er ∧ (w1.setCell ⟨w.heap.size + 1 + 1, 0, none⟩ v').ownsRow B 9 1 v' n' ys ∧ KeepsOthers W (w1.setCell ⟨w.heap.size + 1 + 1, 0, none⟩ v') ∧ Kb B (w.heap.size + 1 + 1) W (w1.setCell ⟨w.heap.size + 1 + 1, 0, none⟩ v') := by
  have hr : ∀ r, v.ownBlock = some r → B ≤ r := fun r e => (hrow.lt r e).1
  have hba : Below W.heap.size W (W.alloc tmp) := (Below.refl _ W).alloc (Nat.le_refl _) _
  have h1 : Bx w w1 p m v mo er := (hx.below hba).grown hg (fun r e => by have := hr r e; omega)
  have h2 := Boxed.appended hx.n (by decide) (own_low hrow (b0 := w.heap.size) (by omega)) hx.b.size (by omega) (own_low hown (b0 := w.heap.size) (by omega)) hg
  refine ⟨h1, h1.setN v', own_set hown (by omega) v', h2.2.2.2.1, ?_⟩
  refine ((Kb.of_below hba hB).trans (Kb.of_grown hg (Nat.le_trans hB hba.size) (fun r e => .inr (hr r e)))).trans ?_
  exact Kb.of_grown (grownBy_setCell' w1 _ v') (Nat.le_trans hB (Nat.le_trans hba.size hg.size)) (fun r e => by cases e; exact .inl rfl)
theorem Inv.same {w WL W W' : World} {p : ByteArray} {m : Nat} {pre : List Nam} {x : Nam} {v : Value} {n : Nat} (hf : (pre ++ [x]).filter (fN p) = pre.filter (fN p)) (hn : (pre.filter (fN p)).length = n) (hle : n ≤ m) (hk : Kb WL.heap.size (w.heap.size + 1 + 1) WL W') (hr : W'.ownsRow WL.heap.size 9 1 v n (strN (pre.filter (fN p)))) (hx : Bx w W' p m v false 0) : Inv w WL p m (pre ++ [x]) W' :=
  ⟨by rw [hf, hn]; exact hle, hk, v, by rw [hf, hn]; exact hr, hx⟩
theorem Inv.more {w WL W W' : World} {p : ByteArray} {m : Nat} {pre : List Nam} {x : Nam} {v : Value} {n : Nat} (hf : (pre ++ [x]).filter (fN p) = pre.filter (fN p) ++ [x]) (hn : (pre.filter (fN p)).length = n) (hle : n + 1 ≤ m) (hk : Kb WL.heap.size (w.heap.size + 1 + 1) WL W') (hr : W'.ownsRow WL.heap.size 9 1 v (n + 1) (strN (pre.filter (fN p)) ++ [.string x.1])) (hx : Bx w W' p m v false 0) : Inv w WL p m (pre ++ [x]) W' :=
  ⟨by rw [hf, List.length_append, List.length_singleton, hn]; exact hle, hk, v, by rw [hf, List.length_append, List.length_singleton, hn, strN_append]; exact hr, hx⟩
theorem behind_stops (n : Nat) (hn : 1 ≤ n) (Bd Ba B X N c D : Nat) (A : Option Addr) (a : ByteArray) (ns : List Nam) (hN : ns.length = N) (hN2 : N ≤ 1000000) (ha : a.size ≤ 1048576) (w : World) (hB : B = w.heap.size)
    (hBa : Ba < B) (hBx : Ba ≠ X) (hBd : Bd < B) (hD : D < B)
    (q0 : w.cell? ⟨Bd, 0, none⟩ = some (.pointer (some ⟨D, 0, none⟩))) (q1 : w.cell? ⟨D, 0, none⟩ = some (.slice A N c)) (q2 : w.cell? ⟨Ba, 0, none⟩ = some (.string a))
    (hrow : ∀ W', Kb B X w W' → ∀ i x, ns[i]? = some x → ∃ g, A = some ⟨g, 0, none⟩ ∧ W'.cell? ⟨g, i, none⟩ = some (.string x.1)) :
    SeqStopsK Fence.wide n Tryd.prog 46 #[.pointer (some ⟨Bd, 0, none⟩), .pointer (some ⟨Ba, 0, none⟩)] (fun x : Nam => #[.string x.1]) (Kb B X) (fun ys => ys = ns.filter (bhN a)) (fun pre => pre <+: ns.filter (bhN a)) (ns.filter (bhN a)).length w := fun lp J Jx W hW hJ hJx hY h0 => by
  subst hB
  exact behind1_in n hn lp Bd Ba w.heap.size X N c D A a ns hN hN2 ha J Jx W hJ hY hW.size hBa hBx ((hW.cell (p := ⟨Bd, 0, none⟩) hBd).trans q0) ((hW.cell (p := ⟨D, 0, none⟩) hD).trans q1) ((hW.cell (p := ⟨Ba, 0, none⟩) hBa).trans q2)
    (fun W' hk => hrow W' ((Kb.of_below hW (Nat.le_refl _)).trans hk)) h0
end Go.Proofs.YtkdjkndnilmjmaaDoor.U
/- dir: List, where the pattern is one. -/
set_option linter.unusedVariables false
set_option linter.unusedSimpArgs false
namespace Go.Proofs.YtkdjkndnilmjmaaDoor.U
open Go.RowKit Go.Proofs Go.Lib Go.Shelf Go.Proofs.YtkdjkndnilmjmaaDoorW.PrintWords
attribute [local go_sem] Oper.semAt_some

section
variable {w w1 : World} {base D M q : Nat} {l : List Ent} {vN : Value}
set_option maxHeartbeats 8000000 in
set_option maxRecDepth 1000000 in
theorem List_on (p a : ByteArray) (m : Nat) (hp : p.size ≤ 1048576) (ha : a.size ≤ 1048576) (h : DirAt w base D M l vN q) (hl : l.length ≤ 1000) (hE : askE (bts p) [] = 0) (hT : Tabs w) :
    Calls Tryd.prog 12 #[.pointer (some ⟨D, 0, none⟩), .string p, .string a, .int .i64 (m : Int)] w fun e w' => LDone w l p a m e w' := by
  have d0 : decide ((m : Int) < 0) = false := by simp
  have hz : ∀ x ∈ l, x.name.size ≤ 1048576 := fun x hx => (h.text x hx).1.sz
  have HT := Lib.hid hT
  have C1 : Hid (∀ W, Below w.heap.size w W → Calls Tryd.prog 26 #[.string p, .string ⟨#[]⟩] W fun e w' => e = .returned (.tuple #[.bool (fitB (bts p) []), .int .i64 0]) ∧ Below W.heap.size W w') := Lib.hid (fun W hW => by
    have := Fits_calls p ⟨#[]⟩ W (by omega) (by decide) (HT.out.below hW)
    rw [show askE p.data.toList (⟨#[]⟩ : ByteArray).data.toList = 0 from hE] at this
    exact this)
  obtain ⟨A, c, rfl, _⟩ := own_form h.row
  obtain ⟨N, hN⟩ : ∃ N, l.length = N := ⟨_, rfl⟩
  rw [hN] at h hl
  have HH : Hid (DirAt w base D M l (.slice A N c) q) := Lib.hid h
  have HN := Lib.hid hN
  have HZ := Lib.hid hz
  have HE0 := Lib.hid hE
  have HCK : Hid (∀ W, Below w.heap.size w W → ∀ i x, l[i]? = some x → ∃ g, A = some ⟨g, 0, none⟩ ∧ g < w.heap.size ∧ W.cell? ⟨g, i, none⟩ = some (.string x.name)) := Lib.hid (fun W hW i x hx => by
    obtain ⟨g', c2, e2, p0, p1⟩ := HH.out.name hx
    injection e2 with e2 _ _
    exact ⟨g', e2, p0, (hW.cell (p := ⟨g', i, none⟩) p0).trans p1⟩)
  clear h hz hN hE hT
  refine (callsIn_wide (n := 3)).1 ?_
  refine callsIn_of_wp_marks Tryd.func12 rfl trivial ?_ rfl
  simp only [Tryd.ntmps12, List.size_toArray, List.length_cons, List.length_nil, Nat.reduceAdd, Nat.reduceSub, Array.replicate_succ, Array.replicate_zero, List.push_toArray, List.append_toArray, List.nil_append, List.cons_append]
  gi_wp2_with fail
  refine ⟨trivial, ?_⟩
  refine (callsIn_wide.2 (off_on D M _ (HH.out.below (Bx.new w p m).b).c1)).mono ?_
  rintro e w5 ⟨rfl, hw5⟩
  have hx : Bx w w5 p m (.slice none 0 0) false 0 := by rw [hw5]; exact Bx.new w p m
  clear hw5
  have q0 := hx.p.cell
  have q1 := hx.m.cell
  have HX5 := Lib.hid hx
  clear hx
  gi_wp2_with fail
  refine ⟨trivial, ?_⟩
  refine (callsIn_wide.2 (C1.out _ HX5.out.b)).mono ?_
  rintro e w6 ⟨rfl, hb6⟩
  have HX6 := Lib.hid (HX5.out.below hb6)
  have q2 := (HH.out.below HX6.out.b).c0
  clear hb6 q0 q1 C1
  gi_wp2_with fail
  gi_loopw [39] (fun v39 wr => ∃ i : Nat, i ≤ N ∧ v39 = .int .i64 (i : Int) ∧ (∀ (j : Nat) (y : Ent), j < i → l[j]? = some y → errX p y = 0) ∧ Bx w wr p m (.slice none 0 0) false 0)
    (fun v39 _ => N - (RowKit.intOf v39).toNat)
  case atStart => exact ⟨0, Nat.zero_le _, rfl, fun j y hj => absurd hj (Nat.not_lt_zero _), HX6.out⟩
  case round =>
    obtain ⟨i, hiN, rfl, hno, hx⟩ := hrel
    have HNO := Lib.hid hno
    have q0 := hx.p.cell
    have HX := Lib.hid hx
    clear hno hx q2
    by_cases hin : i < N
    · have d1 : decide ((i : Int) < (N : Int)) = true := by simp; omega
      have i1 : (i : Int) < (N : Int) := by omega
      obtain ⟨x, hxi⟩ : ∃ x, l[i]? = some x := ⟨_, List.getElem?_eq_getElem (by rw [HN.out]; exact hin)⟩
      obtain ⟨g, rfl, _, q1⟩ := HCK.out _ HX.out.b i x hxi
      have HXI := Lib.hid hxi
      have cF := Fits_calls p x.name wr (by omega) (by have := HZ.out x (List.mem_of_getElem? hxi); omega) (HT.out.below HX.out.b)
      rw [show askE p.data.toList x.name.data.toList = errX p x from rfl] at cF
      obtain ⟨E, hEE⟩ : ∃ E, errX p x = E := ⟨_, rfl⟩
      rw [hEE] at cF
      have CF := Lib.hid cF
      have HEE := Lib.hid hEE
      clear cF hxi hEE
      gi_wp2_with fail
      refine ⟨trivial, ?_⟩
      refine (callsIn_wide.2 CF.out).mono ?_
      rintro e w7 ⟨rfl, hb7⟩
      have HX7 := Lib.hid (HX.out.below hb7)
      clear hb7 CF
      by_cases hE1 : E = 0
      · subst hE1
        gi_wp2_with fail
        go_roundw
        case rel => exact ⟨i + 1, hin, by rw [Int.natCast_succ], fun j y hj hy => by
          rcases Nat.lt_or_ge j i with h1 | h1
          · exact HNO.out j y h1 hy
          · obtain rfl : j = i := by omega
            rw [HXI.out] at hy
            injection hy with hy
            rw [← hy]
            exact HEE.out, HX7.out⟩
        case measure => simp only [RowKit.intOf, Int.toNat_natCast]; omega
      · have d2 : (E == 0) = false := by simpa using hE1
        have d3 : (E != 0) = true := by simpa using hE1
        have HD := Lib.hid (fun w' => LDone.err (w := w) (w' := w') (most := (m : Int)) (lerr_one (a := a) (by omega) HE0.out HXI.out HNO.out (by rw [HEE.out]; exact hE1)) (by rw [HEE.out]; exact hE1))
        rw [HEE.out] at HD
        have q2 := HX7.out.n.cell
        have q3 := HX7.out.o.cell
        have q4 := HX7.out.e.cell
        have f2 := HX7.out.n.frozen
        have f3 := HX7.out.o.frozen
        have f4 := HX7.out.e.frozen
        have HFIN := Lib.hid (((HX7.out.setN (.slice none 0 0)).setO false).setE E)
        clear hE1
        gi_wp2
        exact ⟨_, List_results _ _ rfl rfl rfl HFIN.out.n.cell HFIN.out.o.cell HFIN.out.e.cell, HD.out _ HFIN.out.b⟩
    · obtain rfl : i = N := by omega
      have d1 : decide ((i : Int) < (i : Int)) = false := by simp
      have hall : ∀ (j : Nat) (y : Ent), l[j]? = some y → errX p y = 0 := fun j y hy => HNO.out j y (by have := (List.getElem?_eq_some_iff.1 hy).1; rw [HN.out] at this; exact this) hy
      have HAL := Lib.hid hall
      have c2 := isText_calls a wr ha (HT.out.below HX.out.b)
      obtain ⟨va, hva⟩ : ∃ va, valid (bts a) = va := ⟨_, rfl⟩
      rw [hva] at c2
      have C2 := Lib.hid c2
      have HVA := Lib.hid hva
      clear hall c2 hva
      gi_wp2_with fail
      refine ⟨trivial, ?_⟩
      refine (callsIn_wide.2 C2.out).mono ?_
      rintro e w7 ⟨rfl, hb7⟩
      have HX7 := Lib.hid (HX.out.below hb7)
      clear hb7 C2 q0
      cases va with
      | false =>
        have HD := Lib.hid (fun w' => LDone.err (w := w) (w' := w') (most := (m : Int)) (lerr_form (by omega) HE0.out HAL.out HVA.out) (by decide))
        have q2 := HX7.out.n.cell
        have q3 := HX7.out.o.cell
        have q4 := HX7.out.e.cell
        have f2 := HX7.out.n.frozen
        have f3 := HX7.out.o.frozen
        have f4 := HX7.out.e.frozen
        have HFIN := Lib.hid (((HX7.out.setN (.slice none 0 0)).setO false).setE 5)
        gi_wp2
        exact ⟨_, List_results _ _ rfl rfl rfl HFIN.out.n.cell HFIN.out.o.cell HFIN.out.e.cell, HD.out _ HFIN.out.b⟩
      | true =>
        have HOK : Hid (lerr l p a (m : Int) = 0) := Lib.hid (lerr_ok (by omega) HE0.out HAL.out HVA.out)
        gi_wp2_with fail
        refine ⟨trivial, ?_⟩
        refine (callsIn_wide.2 (behind_calls _ a w7)).mono ?_
        rintro e WL ⟨rfl, hWL⟩
        have hbL : Below w7.heap.size w7 WL := by rw [hWL]; exact ((Below.refl _ w7).alloc (Nat.le_refl _) _).alloc (by simp) _
        have HXL := Lib.hid (HX7.out.below hbL)
        have hs : WL.heap.size = w7.heap.size + 1 + 1 := by rw [hWL]; simp
        have e0 : WL.cell? ⟨w7.heap.size, 0, none⟩ = some (.pointer (some ⟨D, 0, none⟩)) := by rw [hWL]; exact ((Boxed.new w7 _ _).alloc _).cell
        have e1 : WL.cell? ⟨w7.heap.size + 1, 0, none⟩ = some (.string a) := by
          have := Boxed.new (w7.alloc (.cells #[.pointer (some ⟨D, 0, none⟩)] 23)) 9 (.string a)
          rw [World.size_alloc] at this
          rw [hWL]
          exact this.cell
        have hwL := HXL.out.b.size
        have h7 := HX7.out.e.lt
        have hDL : D < w.heap.size := HH.out.lt
        have e2 := (HH.out.below HXL.out.b).c0
        have hst := behind_stops 2 (by omega) w7.heap.size (w7.heap.size + 1) WL.heap.size (w.heap.size + 1 + 1) i c D A a (nams l HZ.out) (by rw [nams_len]; exact HN.out) (by omega) ha WL rfl (by omega) (by omega) (by omega) (by omega) e0 e2 e1 (fun W' hk j x hx => by
          obtain ⟨y, hy, e⟩ := nams_at hx
          obtain ⟨g, eg, _, hc⟩ := HCK.out W' ((HXL.out.b).trans (hk.below (by omega) hwL)) j y hy
          exact ⟨g, eg, by rw [hc, e]⟩)
        have HST := Lib.hid hst
        clear hWL hst e0 e1 e2
        gi_wp2_with fail
        refine with_act ?_
        intro aa haa
        refine wpIn_rangeFunc_ownG rfl (by omega) (gf := 46) (lb := #[.pointer (some ⟨w7.heap.size, 0, none⟩), .pointer (some ⟨w7.heap.size + 1, 0, none⟩)]) (by subst haa; rfl) trivial (enters_of Tryd.func46 (by kernel_rfl) rfl)
          HST.out (fun h k => h.trans k) (fun W k o o' hk ho hc _ => Kb.of_grown (grownBy_putObj' W k o') (by have := (Array.getElem?_eq_some_iff.1 ho).1; omega) (fun r e => by cases e; exact .inr hk)) (Below.refl _ _) (fun _ => rfl)
          (Inv w WL p m) (fun c pre W => c = .ret ∧ Out w WL p m pre W) (Inv.own hwL) (fun c pre W W' row h hg hr => ⟨h.1, Out.own hwL pre W W' row h.2 hg hr⟩)
          ⟨by simp, Kb.refl _ _ _, .slice none 0 0, World.ownsRow_nil _ _ _ _, HXL.out⟩
          (fun x => { tmps := (aa.tmps.setIfInBounds 59 (.string x.1)).setIfInBounds 17 (.string x.1), defers := [] }) ?assign ?body ?done ?stop
        case assign =>
          intro lp x W K hK
          subst haa
          simp only [List.setIfInBounds_toArray, List.set_cons_zero, List.set_cons_succ] at hK
          gi_wp2
          exact hK
        case body =>
          rintro lp pre x W hinv hlt
          subst haa
          simp only [List.setIfInBounds_toArray, List.set_cons_zero, List.set_cons_succ]
          obtain ⟨v, hrow, hbx⟩ := hinv.row
          obtain ⟨A9, c9, rfl, _⟩ := own_form hrow
          obtain ⟨n, hn⟩ : ∃ n, (pre.filter (fN p)).length = n := ⟨_, rfl⟩
          have hle := hinv.le
          rw [hn] at hrow hbx hle
          have HLE := Lib.hid hle
          have HNN := Lib.hid hn
          have HROW : Hid (W.ownsRow WL.heap.size 9 1 (.slice A9 n c9) n (strN (pre.filter (fN p)))) := Lib.hid hrow
          have HBX := Lib.hid hbx
          have HKB := Lib.hid hinv.kb
          have hflt : (pre ++ [x]).filter (fN p) = pre.filter (fN p) ++ (if fN p x then [x] else []) := by
            rw [List.filter_append]
            congr 1
            by_cases hf : fN p x = true
            · rw [if_pos hf, List.filter_cons_of_pos hf]; rfl
            · rw [if_neg hf, List.filter_cons_of_neg hf]; rfl
          have q0 := hbx.p.cell
          have q1 := hbx.m.cell
          have cF := Fits_calls p x.1 W (by omega) (by have := x.2; omega) (HT.out.below hbx.b)
          obtain ⟨ft, hft⟩ : ∃ ft, fN p x = ft := ⟨_, rfl⟩
          rw [show fitB p.data.toList x.1.data.toList = ft from hft] at cF
          rw [hft] at hflt
          obtain ⟨E, hEE⟩ : ∃ E, askE p.data.toList x.1.data.toList = E := ⟨_, rfl⟩
          rw [hEE] at cF
          have CF := Lib.hid cF
          have HFT := Lib.hid hft
          have HFL := Lib.hid hflt
          clear hinv hrow hbx hn hft hflt cF hEE hle
          gi_wp2_with fail
          refine ⟨trivial, ?_⟩
          refine (CallsIn.inRound lp (callsIn_wide.2 CF.out)).mono ?_
          rintro e W5 ⟨rfl, hb5⟩
          have HK5 := Lib.hid (keeps_below hb5)
          have HKB5 := Lib.hid (HKB.out.trans (Kb.of_below hb5 HKB.out.size))
          have HKC5 := Lib.hid (Kb.of_below (X := w.heap.size + 1 + 1) hb5 HKB.out.size)
          have HBX5 := Lib.hid (HBX.out.below hb5)
          have HROW5 := Lib.hid (own_on HROW.out hb5)
          clear hb5 CF q0 q1
          cases ft with
          | false =>
            have hfl := HFL.out
            rw [if_neg (by decide), List.append_nil] at hfl
            have HFL2 := Lib.hid hfl
            clear hfl
            gi_wp2
            exact ⟨HK5.out.from _, HKC5.out, Inv.same (W := W5) HFL2.out HNN.out HLE.out HKB5.out HROW5.out HBX5.out⟩
          | true =>
            have hfl := HFL.out
            rw [if_pos rfl] at hfl
            have HFL2 := Lib.hid hfl
            clear hfl
            have q1 := HBX5.out.m.cell
            have q2 := HBX5.out.n.cell
            have q3 := HBX5.out.o.cell
            have q4 := HBX5.out.e.cell
            have f2 := HBX5.out.n.frozen
            have f3 := HBX5.out.o.frozen
            have f4 := HBX5.out.e.frozen
            by_cases hnm : n = m
            · subst hnm
              have HBF := Lib.hid (((HBX5.out.setN (.slice A9 n c9)).setO true).setE 0)
              have HRF := Lib.hid (own_set (own_set (own_set HROW5.out (k := w.heap.size + 1 + 1) (by omega) (.slice A9 n c9)) (k := w.heap.size + 1 + 1 + 1) (by omega) (.bool true)) (k := w.heap.size + 1 + 1 + 1 + 1) (by omega) (.int .i64 0))
              have HKF := Lib.hid (((HK5.out.trans (KeepsOthers.setCell W5 ⟨w.heap.size + 1 + 1, 0, none⟩ (.slice A9 n c9))).trans (KeepsOthers.setCell _ ⟨w.heap.size + 1 + 1 + 1, 0, none⟩ (.bool true))).trans (KeepsOthers.setCell _ ⟨w.heap.size + 1 + 1 + 1 + 1, 0, none⟩ (.int .i64 0)))
              gi_wp2
              exact ⟨HKF.out.from _, rfl, ⟨pre, x, _, rfl, HFT.out, HNN.out, HRF.out, HBF.out⟩⟩
            · have d7 : ((n : Int) == (m : Int)) = false := by simp; omega
              have d8 : ¬ (n : Int) = (m : Int) := by omega
              have hsz5 := HKC5.out.size
              have hnl : n ≤ 1000000 := by
                have h1 := List.length_filter_le (fN p) pre
                have h2 := List.length_filter_le (bhN a) (nams l HZ.out)
                rw [HNN.out] at h1
                rw [nams_len, HN.out] at h2
                omega
              have hB5 : WL.heap.size ≤ W5.heap.size := HKB5.out.size
              obtain ⟨i0, hi, hz0, hz1, hz2⟩ := info_parts infoS
              have HI := Lib.hid (And.intro hi (And.intro hz0 (And.intro hz1 hz2)))
              have HLT : Hid (n + 1 ≤ m) := Lib.hid (by have := HLE.out; omega)
              clear hi hz0 hz1 hz2 hnm
              gi_wp2_with (gi_at_builtin; refine wpListIn_append_own _ rfl _ _ 29 rfl WL.heap.size 9 i0 (.string ⟨#[]⟩) 1 16 Tryd.underlying29 HI.out.1 HI.out.2.1 HI.out.2.2.1 HI.out.2.2.2 rfl (by decide) _ _ _ rfl (HROW5.out.alloc _) ⟨W5.heap.size, 0, none⟩ 1 1 [.string x.1] rfl rfl (cell_one_new _ _ _) (by simp [Value.oneCell']) (by unfold maxLen; omega) (by omega) (by simp; omega) ?_; intro v' w1 hown' hgrow _; obtain ⟨g', cap', rfl⟩ := ownsRow_succ hown'; have had := append_done HBX5.out HROW5.out hB5 (by omega) hgrow hown'; have HAD := Lib.hid had; have q12 := had.1.n.cell; have f12 := had.1.n.frozen; clear had hown' hgrow)
              exact ⟨(HK5.out.trans HAD.out.2.2.2.1).from _, HKC5.out.trans HAD.out.2.2.2.2, Inv.more (W := W5) HFL2.out HNN.out HLT.out (HKB5.out.trans HAD.out.2.2.2.2) HAD.out.2.2.1 HAD.out.2.1⟩
        case done =>
          rintro D9 ys W hD rfl hinv hK
          subst haa
          obtain ⟨v, hrow, hbx⟩ := hinv.row
          obtain ⟨Av, cv, rfl, _⟩ := own_form hrow
          obtain ⟨nn, hnn⟩ : ∃ nn, (((nams l HZ.out).filter (bhN a)).filter (fN p)).length = nn := ⟨_, rfl⟩
          rw [hnn] at hrow hbx
          obtain ⟨v, hv⟩ : ∃ v, Value.slice Av nn cv = v := ⟨_, rfl⟩
          have q2 := hbx.n.cell
          have q3 := hbx.o.cell
          have q4 := hbx.e.cell
          have f2 := hbx.n.frozen
          have f3 := hbx.o.frozen
          have f4 := hbx.e.frozen
          rw [hv] at hrow hbx
          have hfin := ((hbx.setN v).setO false).setE 0
          have hrf := own_set (own_set (own_set hrow (k := w.heap.size + 1 + 1) (by omega) v) (k := w.heap.size + 1 + 1 + 1) (by omega) (.bool false)) (k := w.heap.size + 1 + 1 + 1 + 1) (by omega) (.int .i64 0)
          have hkf := (((KeepsOthers.setCell W ⟨w.heap.size + 1 + 1, 0, none⟩ v).trans (KeepsOthers.setCell _ ⟨w.heap.size + 1 + 1 + 1, 0, none⟩ (.bool false))).trans (KeepsOthers.setCell _ ⟨w.heap.size + 1 + 1 + 1 + 1, 0, none⟩ (.int .i64 0))).same D9 _ hK rfl
          obtain ⟨WF, hWF⟩ : ∃ WF, ((W.setCell ⟨w.heap.size + 1 + 1, 0, none⟩ v).setCell ⟨w.heap.size + 1 + 1 + 1, 0, none⟩ (.bool false)).setCell ⟨w.heap.size + 1 + 1 + 1 + 1, 0, none⟩ (.int .i64 0) = WF := ⟨_, rfl⟩
          rw [hWF] at hfin hrf hkf
          have htn := turn_put (B := WL.heap.size) (.deferred none) hkf rfl hD
          have HFB := Lib.hid (htn.bx hwL hfin)
          have HFR := Lib.hid (htn.own hrf)
          have HKF := Lib.hid hkf
          have HLE := Lib.hid hinv.le
          have hlen : (((nams l HZ.out).filter (bhN a)).filter (fN p)).length = (cand l p a).length := by
            have h1 := congrArg List.length (strN_cand p a l HZ.out)
            rw [strN_len, strs_len] at h1
            exact h1
          have hD : LDone w l p a (m : Int) (.returned (.tuple #[v, .bool false, .int .i64 0])) (WF.putObj D9 (.deferred none)) := LDone.all HOK.out (by rw [Int.toNat_natCast, ← hlen]; exact hinv.le) rfl (own_low (by
            have h1 := HFR.out
            rw [strN_cand, ← hnn, hlen] at h1
            exact h1) hwL) HFB.out.b
          subst hv
          have HDD := Lib.hid hD
          clear hrow hbx hfin hrf hkf htn hinv hK hlen hD hnn
          gi_wp2
          try rw [hWF]
          refine ⟨by simp, .inl ⟨_, _, rfl, run_takeDeferred HKF.out, ?_⟩⟩
          exact ⟨_, List_results _ _ rfl rfl rfl HFB.out.n.cell HFB.out.o.cell HFB.out.e.cell, HDD.out⟩
        case stop =>
          rintro D9 c pre W hD hpre ⟨rfl, hout⟩ hK
          subst haa
          obtain ⟨ini, x, v, rfl, hfx, hin, hrow, hbx⟩ := hout.row
          have htn := turn_put (B := WL.heap.size) (.deferred none) hK rfl hD
          have HFB := Lib.hid (htn.bx hwL hbx)
          have hrf := htn.own hrow
          have hlen : (((nams l HZ.out).filter (bhN a)).filter (fN p)).length = (cand l p a).length := by
            have h1 := congrArg List.length (strN_cand p a l HZ.out)
            rw [strN_len, strs_len] at h1
            exact h1
          have hpp : (ini ++ [x]).filter (fN p) <+: ((nams l HZ.out).filter (bhN a)).filter (fN p) := by
            obtain ⟨t, ht⟩ := hpre
            rw [← ht, List.filter_append (l₁ := ini ++ [x])]
            exact List.prefix_append _ _
          rw [List.filter_append, List.filter_cons_of_pos hfx, List.filter_nil] at hpp
          obtain ⟨t, ht⟩ := hpp
          have hstr : strs ((cand l p a).take m) = strN (ini.filter (fN p)) := by
            have h1 := strN_cand p a l HZ.out
            rw [← ht, List.append_assoc, strN_append] at h1
            unfold strs at h1 ⊢
            rw [List.map_take, ← h1, List.take_left' (by rw [strN_len]; exact hin)]
          have hml : m < (cand l p a).length := by
            rw [← hlen, ← ht, List.length_append, List.length_append, hin, List.length_singleton]
            omega
          have hD : LDone w l p a (m : Int) (.returned (.tuple #[v, .bool true, .int .i64 0])) (W.putObj D9 (.deferred none)) := LDone.full HOK.out (by rw [Int.toNat_natCast]; exact hml) (by rw [Int.toNat_natCast]) (own_low (by
            rw [hstr, List.length_take, Nat.min_eq_left (by omega)]
            exact hrf) hwL) HFB.out.b
          have HDD := Lib.hid hD
          have HKF := Lib.hid hK
          clear htn hrf hlen ht hstr hml hD hpre hfx hin hrow hbx hout hK
          gi_wp2
          refine ⟨by simp, .inl ⟨_, _, rfl, run_takeDeferred HKF.out, ?_⟩⟩
          exact ⟨_, List_results _ _ rfl rfl rfl HFB.out.n.cell HFB.out.o.cell HFB.out.e.cell, HDD.out⟩
theorem List_calls (p a : ByteArray) (most : Int) (hp : p.size ≤ 1048576) (ha : a.size ≤ 1048576) (h : DirAt w base D M l vN q) (hl : l.length ≤ 1000) (hT : Tabs w) :
    Calls Tryd.prog 12 #[.pointer (some ⟨D, 0, none⟩), .string p, .string a, .int .i64 most] w fun e w' => LDone w l p a most e w' := by
  by_cases h0 : most < 0
  · exact List_neg p a most h h0
  · obtain ⟨m, rfl⟩ := Int.eq_ofNat_of_zero_le (Int.not_lt.1 h0)
    by_cases hE : askE (bts p) [] = 0
    · exact List_on p a m hp ha h hl hE hT
    · exact List_pat p a m hp h hE hT
end
end Go.Proofs.YtkdjkndnilmjmaaDoor.U
