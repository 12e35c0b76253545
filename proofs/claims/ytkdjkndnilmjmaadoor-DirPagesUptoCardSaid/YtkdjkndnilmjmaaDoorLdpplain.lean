/- dir, in plain words: a directory told part by part. -/
import Derived.Test.YtkdjkndnilmjmaaDoorLdlists
import Derived.Laws.OwnMore
set_option linter.unusedVariables false
set_option linter.unusedSimpArgs false
namespace Go.Proofs.YtkdjkndnilmjmaaDoor.U
open Go.RowKit Go.Proofs Go.Lib

def ps : ByteArray := ⟨#[42]⟩
theorem ps_ask : askE (bts ps) [] = 0 := by kernel_rfl
theorem ps_nums : fnums (bts ps) = [42] := by kernel_rfl
theorem mt_any (t : List Int) : mt [42] t = true := (mt_star_iff [] t).2 ⟨t, [], (List.append_nil t).symm, rfl⟩
theorem ps_fit {x : Ent} (h : errX ps x = 0) : fitX ps x = true := by
  unfold errX at h
  unfold fitX fitB
  rw [if_pos h, ps_nums]
  exact mt_any _
theorem errL_all {p : ByteArray} : ∀ {l : List Ent}, errL p l = 0 → ∀ x ∈ l, errX p x = 0
  | [], _, x, hx => by cases hx
  | y :: t, h, x, hx => by
    unfold errL at h
    split at h
    · rename_i hy
      rcases List.mem_cons.1 hx with rfl | hx
      · exact hy
      · exact errL_all h x hx
    · rename_i hy
      exact absurd h hy
theorem lerr_star (l : List Ent) (a : ByteArray) {most : Int} (h : 0 ≤ most) (hv : valid (bts a) = true) : lerr l ps a most = errL ps l := by
  unfold lerr
  rw [if_neg (by omega), if_pos ps_ask, if_pos hv]
  split
  · rename_i h; exact h.symm
  · rfl
theorem cand_star {l : List Ent} (h : errL ps l = 0) (a : ByteArray) : cand l ps a = l.filter (bhd a) := by
  unfold cand
  refine List.filter_congr fun x hx => ?_
  unfold want
  rw [ps_fit (errL_all h x hx), Bool.and_true]
/-- Where the j-th part begins. -/
def aft (l : List Ent) (j : Nat) : ByteArray := if j = 0 then ⟨#[]⟩ else ((l[j - 1]?).map Ent.name).getD ⟨#[]⟩
theorem aft_zero (l : List Ent) : aft l 0 = ⟨#[]⟩ := rfl
theorem aft_at {l : List Ent} {j : Nat} {x : Ent} (h : l[j]? = some x) : aft l (j + 1) = x.name := by
  unfold aft
  rw [if_neg (by omega), Nat.add_sub_cancel, h]
  rfl
theorem ah_irr (a : ByteArray) : ah a a = false := by
  rcases ah_one a a with ⟨h1, h2, _⟩ | ⟨h1, _, _⟩ | ⟨h1, _, _⟩
  · rw [h1] at h2; cases h2
  · exact h1
  · exact h1
theorem ah_asym {a b : ByteArray} (h : ah a b = true) : ah b a = false := by
  rcases ah_one a b with ⟨_, h2, _⟩ | ⟨h1, _, _⟩ | ⟨h1, _, _⟩
  · exact h2
  · rw [h] at h1; cases h1
  · rw [h] at h1; cases h1
theorem aft_text {n : Nat} {l : List Ent} (g : GL n l) {j : Nat} (hj : j ≤ l.length) : valid (bts (aft l j)) = true ∧ (aft l j).size ≤ 1048576 ∧ l.filter (bhd (aft l j)) = l.drop j := by
  cases j with
  | zero =>
    refine ⟨by kernel_rfl, by rw [aft_zero]; decide, ?_⟩
    rw [aft_zero, List.drop_zero, List.filter_eq_self]
    intro x hx
    unfold bhd
    rw [decide_eq_true rfl]
    rfl
  | succ j =>
    have hlt : j < l.length := by omega
    obtain ⟨x, hx⟩ : ∃ x, l[j]? = some x := ⟨_, List.getElem?_eq_getElem hlt⟩
    have hxe := (List.getElem?_eq_some_iff.1 hx).2
    have ht := (g.text x (List.mem_of_getElem? hx)).1
    rw [aft_at hx]
    refine ⟨ht.ok, ht.sz, ?_⟩
    have hb : ∀ y, bhd x.name y = ah x.name y.name := fun y => by
      unfold bhd
      rw [decide_eq_false ht.ne, Bool.false_or]
    conv => lhs; rw [← List.take_append_drop (j + 1) l]
    rw [List.filter_append]
    have h1 : (l.take (j + 1)).filter (bhd x.name) = [] := by
      rw [List.filter_eq_nil_iff]
      intro y hy hh
      rw [hb] at hh
      obtain ⟨i, hi⟩ := List.getElem?_of_mem hy
      rw [List.getElem?_take] at hi
      split at hi
      · obtain ⟨h2, h3⟩ := List.getElem?_eq_some_iff.1 hi
        rcases Nat.lt_or_ge i j with h4 | h4
        · have h5 := List.pairwise_iff_getElem.1 g.rise i j h2 hlt h4
          rw [h3, hxe] at h5
          rw [ah_asym h5] at hh
          cases hh
        · have h5 : i = j := by omega
          subst h5
          rw [← h3, hxe, ah_irr] at hh
          cases hh
      · cases hi
    have h2 : (l.drop (j + 1)).filter (bhd x.name) = l.drop (j + 1) := by
      rw [List.filter_eq_self]
      intro y hy
      rw [hb]
      obtain ⟨i, hi⟩ := List.getElem?_of_mem hy
      rw [List.getElem?_drop] at hi
      obtain ⟨h3, h4⟩ := List.getElem?_eq_some_iff.1 hi
      have h5 := List.pairwise_iff_getElem.1 g.rise j (j + 1 + i) hlt h3 (by omega)
      rw [h4, hxe] at h5
      exact h5
    rw [h1, h2, List.nil_append]
/-- A part. -/
theorem part_is {n : Nat} {l : List Ent} (g : GL n l) (he : errL ps l = 0) {j : Nat} (hj : j ≤ l.length) (m : Nat) :
    lerr l ps (aft l j) (m : Int) = 0 ∧ lnam l ps (aft l j) (m : Int) = (l.drop j).take m ∧ lmor l ps (aft l j) (m : Int) = decide (m < l.length - j) := by
  obtain ⟨h1, _, h3⟩ := aft_text g hj
  have h0 := (lerr_star l (aft l j) (Int.natCast_nonneg m) h1).trans he
  refine ⟨h0, ?_, ?_⟩
  · unfold lnam
    rw [if_pos h0, cand_star he, h3, Int.toNat_natCast]
  · unfold lmor
    rw [if_pos h0, cand_star he, h3, Int.toNat_natCast, List.length_drop]
/-- All of it. -/
theorem all_is {n : Nat} {l : List Ent} (g : GL n l) (he : errL ps l = 0) (hn : l.length ≤ 1048576) :
    lerr l ps ⟨#[]⟩ 1048576 = 0 ∧ lnam l ps ⟨#[]⟩ 1048576 = l ∧ lmor l ps ⟨#[]⟩ 1048576 = false := by
  have h := part_is g he (j := 0) (Nat.zero_le _) 1048576
  rw [aft_zero] at h
  obtain ⟨h1, h2, h3⟩ := h
  refine ⟨h1, ?_, ?_⟩
  · exact h2.trans (by rw [List.drop_zero, List.take_of_length_le hn])
  · exact h3.trans (decide_eq_false (by omega))
theorem all_not {l : List Ent} (he : errL ps l ≠ 0) : lerr l ps ⟨#[]⟩ 1048576 = errL ps l ∧ lnam l ps ⟨#[]⟩ 1048576 = [] := by
  have h := lerr_star l ⟨#[]⟩ (most := 1048576) (by decide) (by kernel_rfl)
  refine ⟨h, ?_⟩
  unfold lnam
  rw [if_neg (by rw [h]; exact he)]
/-- A row of the call's own behind another one. -/
theorem run_names (w : World) (base : Nat) (ty : TypeId) (v : Value) (a b : List Ent) (u : Value) (ub : Nat) (hown : w.ownsRow base 9 1 v a.length (strs a)) (hu : w.ownsRow ub 9 1 u b.length (strs b)) (hn : a.length + b.length ≤ 1000000) (hbase : base ≤ w.heap.size) :
    ∃ v' w', (Builtin.append_ #[29, 29] ty #[v, u]).run Tryd.prog w = .ok v' w' ∧ w'.ownsRow base 9 1 v' (a ++ b).length (strs (a ++ b)) ∧ w.grownBy w' v.ownBlock := by
  obtain ⟨i0, hi, hz0, hz1, hz2⟩ := info_parts infoS
  obtain ⟨A, c, rfl, hc, ⟨rfl, rfl⟩ | ⟨g, rfl, hg⟩⟩ := own_form hu
  · have hb : b = [] := List.eq_nil_of_length_eq_zero (by omega)
    subst hb
    refine ⟨v, w, run_append_owned_none (P := Tryd.prog) w base 29 ty 9 i0 1 Tryd.underlying29 hi v a.length (strs a) hown, by rw [List.append_nil]; exact hown, ⟨rfl, rfl, rfl, Nat.le_refl _, fun _ _ _ => rfl⟩⟩
  · obtain ⟨v', w', r1, r2, r3, _⟩ := run_append_own (P := Tryd.prog) w base 29 ty 9 i0 _ 1 16 Tryd.underlying29 hi hz0 hz1 hz2 rfl (by decide) v a.length (strs a) hown ⟨g, 0, none⟩ b.length c (strs b) (by rw [strs_len, Nat.mul_one]) (fun j x hj => by
      rw [Addr.add_lit, Nat.zero_add]
      exact (hu.cellAt j (by have := (List.getElem?_eq_some_iff.1 hj).1; rw [strs_len] at this; omega)).trans hj) (fun x hx => by
      unfold strs at hx
      obtain ⟨y, _, rfl⟩ := List.mem_map.1 hx
      rfl) (by unfold maxLen; omega) (by omega) hbase
    refine ⟨v', w', r1, ?_, r3⟩
    rw [strs_append, List.length_append]
    exact r2
end Go.Proofs.YtkdjkndnilmjmaaDoor.U
