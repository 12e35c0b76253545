/- The law CacheOpen: what stands in memory through its loops. -/
import Derived.Test.YtbnkiefchbcfgaaClawk
import Derived.Test.YtbnkiefchbcfgaaOpenC
set_option linter.unusedVariables false
set_option linter.unusedSimpArgs false
namespace Go.Proofs.Ytbnkiefchbcfgaa.U
open Go.RowKit Go.Proofs Go.Lib Go.Proofs.YtbnkiefchbcfgaaW.PrintWords

/-- The cells of pieces that were handed in. -/
def flat (ks : List ExtV) : List Value := ks.flatMap fun a => [.int .i64 a.p, .slice a.A a.bs.length a.ca]
theorem flat_snoc (ks : List ExtV) (a : ExtV) : flat (ks ++ [a]) = flat ks ++ [.int .i64 a.p, .slice a.A a.bs.length a.ca] := by simp [flat]
theorem flat_at : ∀ (ks : List ExtV) (j : Nat) (a : ExtV), ks[j]? = some a → (flat ks)[j * 2]? = some (.int .i64 a.p) ∧ (flat ks)[j * 2 + 1]? = some (.slice a.A a.bs.length a.ca)
  | [], j, a, h => by simp at h
  | x :: t, 0, a, h => by
    simp at h
    subst h
    exact ⟨rfl, rfl⟩
  | x :: t, j + 1, a, h => by
    have h' : t[j]? = some a := by simpa using h
    obtain ⟨h1, h2⟩ := flat_at t j a h'
    have e : flat (x :: t) = .int .i64 x.p :: .slice x.A x.bs.length x.ca :: flat t := by simp [flat]
    rw [e, show (j + 1) * 2 = j * 2 + 1 + 1 by omega]
    exact ⟨h1, h2⟩
theorem flat_one (ks : List ExtV) : ∀ u ∈ flat ks, u.oneCell' = true := by
  intro u hu
  simp only [flat, List.mem_flatMap, List.mem_cons, List.not_mem_nil, or_false] at hu
  obtain ⟨a, _, rfl | rfl⟩ := hu <;> rfl
/-- The cache, the row of what is wanted, the row of what was kept. -/
structure OpC (w0 w : World) (C : Nat) (vW vK : Value) (s : St) (W : List Int) (ks : List ExtV) (lA oA : Option Addr) (c oc : Nat) : Prop where
  one : One w (fun k => vW.ownBlock = some k) C s lA c oA oc
  want : w.ownsRow w0.heap.size 5 1 vW W.length (nums .u8 W)
  kept : RowAt w vK ks.length (flat ks)
  kB : ∀ k, vK.ownBlock = some k → w0.heap.size ≤ k ∧ k ≠ C ∧ (∀ o, lA ≠ some ⟨k, o, none⟩) ∧ ∀ o, oA ≠ some ⟨k, o, none⟩
  bC : w0.heap.size ≤ C
  bL : ∀ L o, lA = some ⟨L, o, none⟩ → w0.heap.size ≤ L
  bO : ∀ L o, oA = some ⟨L, o, none⟩ → w0.heap.size ≤ L
  b : Below w0.heap.size w0 w
def Op (w0 w : World) (C : Nat) (vW vK : Value) (s : St) (W : List Int) (ks : List ExtV) : Prop := ∃ lA oA c oc, OpC w0 w C vW vK s W ks lA oA c oc
section
variable {w0 w w' : World} {C n : Nat} {vW vK : Value} {s s' : St} {W : List Int} {ks : List ExtV} {lA oA : Option Addr} {c oc : Nat}
theorem OpC.below (h : OpC w0 w C vW vK s W ks lA oA c oc) (hb : Below w.heap.size w w') : OpC w0 w' C vW vK s W ks lA oA c oc :=
  ⟨h.one.below hb, own_below h.want hb, h.kept.below hb, h.kB, h.bC, h.bL, h.bO, h.b.trans (hb.mono h.b.size)⟩
theorem Op.below (h : Op w0 w C vW vK s W ks) (hb : Below w.heap.size w w') : Op w0 w' C vW vK s W ks := by
  obtain ⟨lA, oA, c, oc, h⟩ := h
  exact ⟨lA, oA, c, oc, h.below hb⟩
theorem Op.frame (h : Op w0 w C vW vK s W ks) : Below w0.heap.size w0 w := by
  obtain ⟨lA, oA, c, oc, h⟩ := h
  exact h.b
theorem Op.slice (h : Op w0 w C vW vK s W ks) : ∃ A c, vK = .slice A ks.length c := by
  obtain ⟨lA, oA, c, oc, h⟩ := h
  exact h.kept.slice
theorem Op.own (h : Op w0 w C vW vK s W ks) : w.ownsRow w0.heap.size 5 1 vW W.length (nums .u8 W) := by
  obtain ⟨lA, oA, c, oc, h⟩ := h
  exact h.want
theorem Op.at_ {A : Option Addr} {m ck j : Nat} {a : ExtV} (h : Op w0 w C vW (.slice A m ck) s W ks) (hj : ks[j]? = some a) : ∃ L, A = some ⟨L, 0, none⟩ ∧ w.cell? ⟨L, j * 2, none⟩ = some (.int .i64 a.p) ∧ w.cell? ⟨L, j * 2 + 1, none⟩ = some (.slice a.A a.bs.length a.ca) := by
  obtain ⟨lA, oA, c, oc, h⟩ := h
  obtain ⟨f1, f2⟩ := flat_at ks j a hj
  have g1 := (List.getElem?_eq_some_iff.1 f1).1
  have g2 := (List.getElem?_eq_some_iff.1 f2).1
  rcases h.kept.2 with ⟨_, h2⟩ | ⟨L, c2, sp, e, hL, _⟩
  · have := (List.getElem?_eq_some_iff.1 hj).1
    omega
  · injection e with e1 _ _
    refine ⟨L, e1, ?_, ?_⟩
    · rw [Lib.cell_of_heap hL, List.getElem?_toArray, List.getElem?_append_left g1]
      exact f1
    · rw [Lib.cell_of_heap hL, List.getElem?_toArray, List.getElem?_append_left g2]
      exact f2
theorem row_block {v : Value} {n : Nat} {l : List Value} (h : RowAt w v n l) (k : Nat) (hk : v.ownBlock = some k) : ∃ cs, w.heap[k]? = some (.cells cs 32 (0, 0)) := by
  rcases h.2 with ⟨rfl, _⟩ | ⟨L, c, sp, rfl, hL, _⟩
  · cases hk
  · simp only [Value.ownBlock, Option.some.injEq] at hk
    subst hk
    exact ⟨_, hL⟩
theorem row_stay {v : Value} {n : Nat} {l : List Value} (h : RowAt w v n l) (hm : ∀ k, v.ownBlock = some k → w'.heap[k]? = w.heap[k]?) : RowAt w' v n l := by
  obtain ⟨h1, h2⟩ := h
  refine ⟨h1, ?_⟩
  rcases h2 with h2 | ⟨L, c, sp, rfl, hL, r⟩
  · exact .inl h2
  · exact .inr ⟨L, c, sp, rfl, (hm L rfl).trans hL, r⟩
theorem OpC.step (h : OpC w0 w C vW vK s W ks lA oA c oc) (hs : StepC w (fun k => vW.ownBlock = some k) C lA oA s' w') : Op w0 w' C vW vK s' W ks := by
  obtain ⟨lA', c', oA', oc', r1, r2, r3, r4⟩ := hs
  have hw := h.b.size
  refine ⟨lA', oA', c', oc', r1, own_stay h.want fun k hk => ?_, row_stay h.kept fun k hk => ?_, fun k hk => ?_, h.bC, fun L o e => ?_, fun L o e => ?_, r2.below h.b (Nat.le_refl _) h.bC h.bL h.bO⟩
  · obtain ⟨cs, hc⟩ := own_type h.want k hk
    rw [hc]
    exact r2.u8k h.one k cs _ hc
  · obtain ⟨cs, hc⟩ := row_block h.kept k hk
    obtain ⟨q1, q2, q3, q4⟩ := h.kB k hk
    exact r2.block k (Array.getElem?_eq_some_iff.1 hc).1 q2 q3 q4
  · obtain ⟨cs, hc⟩ := row_block h.kept k hk
    have hlt := (Array.getElem?_eq_some_iff.1 hc).1
    obtain ⟨q1, q2, q3, q4⟩ := h.kB k hk
    refine ⟨q1, q2, fun o e => ?_, fun o e => ?_⟩
    · rcases r3 k o e with ⟨o2, h5⟩ | h5
      · exact q3 o2 h5
      · omega
    · rcases r4 k o e with ⟨o2, h5⟩ | h5
      · exact q4 o2 h5
      · omega
  · rcases r3 L o e with ⟨o2, h5⟩ | h5
    · exact h.bL L o2 h5
    · omega
  · rcases r4 L o e with ⟨o2, h5⟩ | h5
    · exact h.bO L o2 h5
    · omega
/-- One piece more is kept. -/
theorem Op.app {V cV : Nat} {fz : Nat × Nat} (h : Op w0 w C vW vK s W ks) (ty : TypeId) (a : ExtV) (hV : w.heap[V]? = some (.cells #[.int .i64 a.p, .slice a.A a.bs.length a.ca] 32 fz)) (hn : ks.length ≤ 1000000) :
    ∃ v' w', (Builtin.append_ #[23, 23] ty #[vK, .slice (some ⟨V, 0, none⟩) 1 cV]).run Try.prog w = .ok v' w' ∧ Op w0 w' C vW v' s W (ks ++ [a]) := by
  obtain ⟨lA, oA, c, oc, h⟩ := h
  obtain ⟨v', w', r1, r2, r3, r4⟩ := run_appendE w ty vK ks.length (flat ks) V cV _ _ fz h.kept hV rfl rfl hn (flat_one ks)
  have hu := h.kept.u8_kept r3
  have hbl : ∀ (k : Nat) (ob : Obj), w.heap[k]? = some ob → vK.ownBlock ≠ some k → w'.heap[k]? = w.heap[k]? := fun k ob hh hne => r3.block k (Array.getElem?_eq_some_iff.1 hh).1 (fun e => hne e.symm)
  have hC : w'.heap[C]? = w.heap[C]? := hbl C _ h.one.d.head (fun e => (h.kB C e).2.1 rfl)
  have hL : ∀ L o, lA = some ⟨L, o, none⟩ → w'.heap[L]? = w.heap[L]? := fun L o e => by
    obtain ⟨_, _, cs, hh⟩ := h.one.d.known.at_ e
    exact hbl L _ hh (fun e2 => (h.kB L e2).2.2.1 o e)
  have hO : ∀ L o, oA = some ⟨L, o, none⟩ → w'.heap[L]? = w.heap[L]? := fun L o e => by
    obtain ⟨_, cs, hh⟩ := h.one.d.opn.at_ e
    exact hbl L _ hh (fun e2 => (h.kB L e2).2.2.2 o e)
  refine ⟨v', w', r1, lA, oA, c, oc, ⟨⟨hC.trans h.one.d.head, h.one.d.known.kept hL hu, h.one.d.opn.kept hO hu, h.one.d.apart⟩, fun k hk => Nat.lt_of_lt_of_le (h.one.new k hk) r3.size⟩, own_stay h.want fun k hk => ?_, ?_, fun k hk => ?_, h.bC, h.bL, h.bO, h.b.grown r3 h.b.size (fun k hk => (h.kB k hk).1)⟩
  · obtain ⟨cs, hc⟩ := own_type h.want k hk
    rw [hc]
    exact hu k cs _ hc
  · rw [List.length_append, flat_snoc]
    exact r2
  · rcases r4 k hk with h5 | h5
    · exact h.kB k h5
    · refine ⟨Nat.le_trans h.b.size h5, fun e => ?_, fun o e => ?_, fun o e => ?_⟩
      · have := h.one.d.lt
        omega
      · have := (h.one.d.known.at_ e).2.1
        omega
      · have := (h.one.d.opn.at_ e).1
        omega
/-- A byte of what is wanted is stored. -/
theorem Op.store {g m cw : Nat} (h : Op w0 w C (.slice (some ⟨g, 0, none⟩) m cw) vK s W ks) (hg : Good s n) (hm : m = W.length) (j : Nat) (b : Int) : Op w0 (w.setCell ⟨g, j, none⟩ (.int .u8 b)) C (.slice (some ⟨g, 0, none⟩) m cw) vK s (W.set j b) ks := by
  subst hm
  obtain ⟨lA, oA, c, oc, h⟩ := h
  obtain ⟨r1, r2⟩ := h.want.stored j (.int .u8 b)
  have hx0 : ∀ x ∈ s.xs, 0 < x.2.length := fun x hx => (hg.fit.ok.mem x hx).2
  have ho0 : ∀ x ∈ s.os, 0 < x.2.length := fun x hx => (hg.wi x hx).1
  have hty : ∀ (k : Nat) (cs : Array Value) (t : TypeId) (f : Nat × Nat), w.heap[k]? = some (.cells cs t f) → 5 ≠ t → (w.setCell ⟨g, j, none⟩ (.int .u8 b)).heap[k]? = w.heap[k]? := fun k cs t f hh hne => set_other _ (fun e => own_ne_block h.want (e ▸ hh) hne rfl)
  have hu : ∀ (k : Nat) (cs : Array Value) (f : Nat × Nat), w.heap[k]? = some (Obj.cells cs 5 f) → ¬ ((Value.slice (some ⟨g, 0, none⟩) W.length cw).ownBlock = some k) → (w.setCell ⟨g, j, none⟩ (.int .u8 b)).heap[k]? = some (Obj.cells cs 5 f) := fun k cs f hh hne => by
    rw [set_other _ (fun e => hne (by rw [e]; rfl))]
    exact hh
  refine ⟨lA, oA, c, oc, ⟨⟨(hty _ _ _ _ h.one.d.head (by decide)).trans h.one.d.head, h.one.d.known.apart hx0 (fun L o e => ?_) hu, h.one.d.opn.apart ho0 (fun L o e => ?_) hu, h.one.d.apart⟩, fun k hk => ?_⟩, ?_, row_stay h.kept fun k hk => ?_, h.kB, h.bC, h.bL, h.bO, ?_⟩
  · obtain ⟨_, _, cs, hh⟩ := h.one.d.known.at_ e
    exact hty _ _ _ _ hh (by decide)
  · obtain ⟨_, cs, hh⟩ := h.one.d.opn.at_ e
    exact hty _ _ _ _ hh (by decide)
  · show k < (w.heap.modify g _).size
    rw [Array.size_modify]
    exact h.one.new k hk
  · rw [List.length_set, nums, List.map_set]
    exact r1
  · obtain ⟨cs, hh⟩ := row_block h.kept k hk
    exact hty _ _ _ _ hh (by decide)
  · refine ⟨h.b.os, h.b.tape, h.b.output, ?_, fun k hk => ?_⟩
    · show w0.heap.size ≤ (w.heap.modify g _).size
      rw [Array.size_modify]
      exact h.b.size
    · rw [set_other _ (fun e => by
        have := own_base h.want g 0 rfl
        omega)]
      exact h.b.block k hk
end
/-- What the loops keep, in plain words. -/
structure Pu (m : Nat) (s : St) (W : List Int) (ks : List ExtV) (i : Nat) : Prop where
  lvl : s.lvl = 2
  size : s.size = m
  rel : Rel m s.xs W (List.replicate m true)
  os : s.os = ks.map fun a => (a.p.toNat, a.bs)
  pos : ∀ a ∈ ks, 0 ≤ a.p
  few : ks.length ≤ i
theorem rput_true (q l m : Nat) (h : q + l ≤ m) : rput q (List.replicate l true) (List.replicate m true) = List.replicate m true := by
  apply List.ext_getElem?
  intro j
  rw [rput_get (by simp only [List.length_replicate]; exact h), List.length_replicate]
  split
  · rename_i hj
    rw [List.getElem?_replicate, List.getElem?_replicate, if_pos (by omega), if_pos (by omega)]
  · rfl
theorem Pu.write {m i q : Nat} {s : St} {W : List Int} {ks : List ExtV} (h : Pu m s W ks i) (a : ExtV) (ha : a.p = (q : Int)) (hk : wrOk s.lvl s.size a.p a.bs.length = true) : Pu m (stW s a.p a.bs).2 (rput q a.bs W) (ks ++ [a]) (i + 1) := by
  obtain ⟨h1, h2, h3, h4, h5⟩ := wrOk_iff.1 hk
  have hs := h.size
  unfold stW
  rw [if_pos hk, ha, Int.toNat_natCast]
  refine ⟨h.lvl, h.size, ?_, ?_, fun x hx => ?_, ?_⟩
  · have := h.rel.lay q a.bs h2 (by omega)
    rw [rput_true _ _ _ (by omega)] at this
    exact this
  · show s.os ++ [(q, a.bs)] = _
    rw [List.map_append, h.os, List.map_cons, List.map_nil, ha, Int.toNat_natCast]
  · rcases List.mem_append.1 hx with hx | hx
    · exact h.pos x hx
    · rw [List.mem_singleton.1 hx, ha]
      omega
  · have := h.few
    rw [List.length_append, List.length_singleton]
    omega
theorem stW_false {s : St} {p : Int} {bs : List Int} (h : (stW s p bs).1 = false) : (stW s p bs).2 = s := by
  unfold stW at h ⊢
  split
  · rename_i hk
    rw [if_pos hk] at h
    cases h
  · rfl
theorem stW_true {s : St} {p : Int} {bs : List Int} (h : (stW s p bs).1 = true) : wrOk s.lvl s.size p bs.length = true := by
  unfold stW at h
  split at h
  · assumption
  · cases h
theorem Pu.next {m i j : Nat} {s : St} {W : List Int} {ks : List ExtV} (h : Pu m s W ks i) (hj : i ≤ j) : Pu m s W ks j := ⟨h.lvl, h.size, h.rel, h.os, h.pos, Nat.le_trans h.few hj⟩
/-- All is known, and as it is wanted. -/
theorem Pu.read {m i : Nat} {s : St} {W : List Int} {ks : List ExtV} (h : Pu m s W ks i) (hm : 0 < m) : stOk s 0 (m : Int) = true ∧ stB s 0 (m : Int) = W := by
  have hk : knB s.xs 0 m = true := (h.rel.known 0 m (by omega)).2 (fun j hj => by rw [Nat.zero_add, List.getElem?_replicate, if_pos hj])
  have e : rdOk s.lvl s.size s.xs 0 (m : Int) = true := by
    unfold rdOk
    rw [Int.toNat_natCast, show (0 : Int).toNat = 0 from rfl, hk, Bool.and_true, decide_eq_true_iff, h.lvl, h.size]
    omega
  refine ⟨e, ?_⟩
  unfold stB rdB
  rw [if_pos e, Int.toNat_natCast, show (0 : Int).toNat = 0 from rfl, h.rel.read 0 m (by omega), List.drop_zero]
  exact List.take_of_length_le (by rw [h.rel.bl]; exact Nat.le_refl _)
theorem Pu.read0 {i : Nat} {s : St} {W : List Int} {ks : List ExtV} (h : Pu 0 s W ks i) : stOk s 0 0 = false ∧ stB s 0 0 = [] := by
  have e : rdOk s.lvl s.size s.xs 0 0 = false := by
    unfold rdOk
    rw [decide_eq_false (by omega), Bool.false_and]
  exact ⟨e, by unfold stB rdB; rw [e]; rfl⟩
/-- What stands at first. -/
theorem Pu.start (m : Nat) (bs : List Int) (hl : bs.length = m) (hs : m ≤ 65536) : (stF ⟨2, m, [], []⟩ 0 bs).1 = 0 ∧ Pu m (stF ⟨2, m, [], []⟩ 0 bs).2 bs [] 0 := by
  have hk : inB ⟨2, m, [], []⟩ 0 bs.length = true := inB_iff.2 ⟨by omega, by show (0 : Int) ≤ (m : Int); omega, by show (bs.length : Int) ≤ (m : Int) - 0; omega⟩
  unfold stF
  rw [if_pos hk]
  refine ⟨rfl, ?_⟩
  show Pu m (if (2 : Nat) = 0 then (⟨2, m, [], []⟩ : St) else ⟨2, m, lays [] (wr0 0 bs []), []⟩) bs [] 0
  rw [if_neg (by decide)]
  refine ⟨rfl, rfl, ?_, rfl, fun a ha => (by cases ha), Nat.le_refl _⟩
  have h1 := (Rel.blank m).lay0 0 bs (by omega)
  have e1 : rput 0 bs (List.replicate m 0) = bs := by
    apply List.ext_getElem?
    intro j
    rw [rput_get (by rw [List.length_replicate]; omega), Nat.zero_add, Nat.sub_zero]
    split
    · rfl
    · rename_i hj
      rw [List.getElem?_eq_none (by rw [List.length_replicate]; omega), List.getElem?_eq_none (by omega)]
  have e2 : rput 0 (List.replicate bs.length true) (List.replicate m false) = List.replicate m true := by
    apply List.ext_getElem?
    intro j
    rw [rput_get (by rw [List.length_replicate, List.length_replicate]; omega), Nat.zero_add, Nat.sub_zero, List.length_replicate]
    split
    · rw [hl]
    · rename_i hj
      rw [List.getElem?_eq_none (by rw [List.length_replicate]; omega), List.getElem?_eq_none (by rw [List.length_replicate]; omega)]
  rw [e1, e2] at h1
  exact h1
theorem stFi_cons {s : St} {x : Ext} {t : List Ext} (h : s.os = x :: t) : stFi s = (x.1, x.2, true) := by unfold stFi; rw [h]
theorem stS_cons {s : St} {x : Ext} {t : List Ext} (h : s.os = x :: t) : stS s = (0, ⟨s.lvl, s.size, s.xs, t⟩) := by unfold stS; rw [h]
theorem stFi_none {s : St} (h : s.os = []) : stFi s = (0, [], false) := by unfold stFi; rw [h]
theorem stS_none {s : St} (h : s.os = []) : stS s = (17, s) := by unfold stS; rw [h]
theorem BA.take {w : World} {A : Option Addr} {c : Nat} {bs : List Int} (h : BA w A c bs) (m : Nat) : BA w A c (bs.take m) := by
  refine ⟨Nat.le_trans (by rw [List.length_take]; omega) h.1, fun h0 => ?_⟩
  obtain ⟨g, o, e, hg, hc⟩ := h.2 (by rw [List.length_take] at h0; omega)
  refine ⟨g, o, e, hg, fun j u hj => hc j u ?_⟩
  unfold nums at hj ⊢
  rw [List.getElem?_map, List.getElem?_take] at hj
  rw [List.getElem?_map]
  split at hj
  · exact hj
  · cases hj
theorem own_lower {w : World} {base b0 : Nat} {e : TypeId} {size n : Nat} {v : Value} {xs : List Value} (h : w.ownsRow base e size v n xs) (hb : b0 ≤ base) : w.ownsRow b0 e size v n xs := by
  obtain ⟨h1, h2⟩ := h
  refine ⟨h1, ?_⟩
  rcases h2 with h2 | ⟨g, cap, cur, rfl, hg, r⟩
  · exact .inl h2
  · exact .inr ⟨g, cap, cur, rfl, Nat.le_trans hb hg, r⟩
theorem ER.ba {w : World} {A : Option Addr} {l : List ExtV} (h : ER w A l) {a : ExtV} (ha : a ∈ l) : BA w a.A a.ca a.bs := by
  obtain ⟨j, hj⟩ := List.getElem?_of_mem ha
  obtain ⟨g, o, _, _, hc⟩ := h (List.length_pos_of_mem ha)
  exact (hc j a hj).2.2
theorem drop_map {ks : List ExtV} {j : Nat} {a : ExtV} (h : ks[j]? = some a) : (ks.drop j).map (fun a => (a.p.toNat, a.bs)) = (a.p.toNat, a.bs) :: (ks.drop (j + 1)).map (fun a => (a.p.toNat, a.bs)) := by
  obtain ⟨h1, h2⟩ := List.getElem?_eq_some_iff.1 h
  rw [List.drop_eq_getElem_cons h1, h2, List.map_cons]
/-- What stands ahead of the loop. -/
theorem Op.start {w w1 w2 : World} {n : Nat} {s' : St} (hb1 : Below w.heap.size w w1) (g : Good s' n) (hs : StepC w1 (fun _ => False) w.heap.size none none s' w2) : Below w.heap.size w w2 ∧ ∀ (vW : Value) (w3 : World) (bs : List Int), w3.ownsRow w2.heap.size 5 1 vW bs.length (nums .u8 bs) → Below w2.heap.size w2 w3 → Op w w3 w.heap.size vW (.slice none 0 0) s' bs [] := by
  obtain ⟨lA, c, oA, oc, r1, r2, r3, r4⟩ := hs
  have hb2 : Below w.heap.size w w2 := r2.below hb1 (Nat.le_refl _) (Nat.le_refl _) (fun L o e => by cases e) (fun L o e => by cases e)
  have hx0 : ∀ x ∈ s'.xs, 0 < x.2.length := fun x hx => (g.fit.ok.mem x hx).2
  have ho0 : ∀ x ∈ s'.os, 0 < x.2.length := fun x hx => (g.wi x hx).1
  have h1 := hb1.size
  refine ⟨hb2, fun vW w3 bs hown hb3 => ?_⟩
  have hlt : ∀ k, vW.ownBlock = some k → w2.heap.size ≤ k := fun k hk => (hown.lt k hk).1
  have hal : ∀ k, vW.ownBlock = some k → False ∨ w2.heap.size ≤ k := fun k hk => .inr (hlt k hk)
  refine ⟨lA, oA, c, oc, ⟨⟨kept_below hb3 _ _ r1.d.head, (r1.d.known.also hx0 hal).below hb3, (r1.d.opn.also ho0 hal).below hb3, r1.d.apart⟩, fun k hk => ?_⟩, own_lower hown hb2.size, ⟨rfl, .inl ⟨rfl, rfl⟩⟩, (fun k hk => by cases hk), Nat.le_refl _, fun L o e => ?_, fun L o e => ?_, hb2.trans (hb3.mono hb2.size)⟩
  · obtain ⟨cs, hc⟩ := own_type hown k hk
    exact (Array.getElem?_eq_some_iff.1 hc).1
  · rcases r3 L o e with ⟨o2, h5⟩ | h5
    · cases h5
    · omega
  · rcases r4 L o e with ⟨o2, h5⟩ | h5
    · cases h5
    · omega
end Go.Proofs.Ytbnkiefchbcfgaa.U
