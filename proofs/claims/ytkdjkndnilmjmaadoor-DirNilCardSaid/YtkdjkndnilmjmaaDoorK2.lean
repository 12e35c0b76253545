/- The texts Dspec, Dmap, Doff, Lreg, Dplace, Dtext, Dfind, Dins, Ddel, Dcore, Dadd, Dremove, Drename, one behind the other. -/
import Derived.Test.YtkdjkndnilmjmaaDoorK1
import Derived.Maps.OwnSet
import Derived.Test.YtkdjkndnilmjmaaDoorProg
import Derived.Test.YtkdjkndnilmjmaaDoorWWords
import Derived.WalkKit
import Derived.Lib.Hide
import Derived.Deep.QuietTactic
import Derived.BigQuiet
import Derived.Laws.Runes
import Derived.Handy
import Derived.OrdersHeld
import Derived.Deep.RegionHeld3
import Derived.Laws.AppendOwn
import Derived.StringKeys
import Derived.Test.YtkdjkndnilmjmaaDoorShelf
import Derived.Lib.OwnBridge
/- dir, in plain words: entries in their order; what is found, added, removed, renamed. -/
set_option linter.unusedVariables false
set_option linter.unusedSimpArgs false
namespace Go.Proofs.YtkdjkndnilmjmaaDoor.U
open Go.Maps

theorem ordN_neg : ∀ xs ys : List Nat, ordN ys xs = - ordN xs ys := by
  intro xs
  induction xs with
  | nil => intro ys; rw [ordN_nil, ordN_nil']; omega
  | cons x xs ih =>
    intro ys
    cases ys with
    | nil => rw [ordN_nil, ordN_nil']
    | cons y ys =>
      rw [ordN_cons, ordN_cons]
      by_cases h : x = y
      · subst h
        rw [if_pos rfl, if_pos rfl, ih]
      · rw [if_neg h, if_neg (Ne.symm h)]
        omega
theorem ordN_trans : ∀ xs ys zs : List Nat, ordN xs ys < 0 → ordN ys zs < 0 → ordN xs zs < 0 := by
  intro xs
  induction xs with
  | nil =>
    intro ys zs h1 h2
    cases zs with
    | nil =>
      rw [ordN_nil'] at h2
      omega
    | cons z zs => rw [ordN_nil, List.length_cons]; omega
  | cons x xs ih =>
    intro ys zs h1 h2
    cases ys with
    | nil => rw [ordN_nil'] at h1; omega
    | cons y ys =>
      cases zs with
      | nil => rw [ordN_nil'] at h2; omega
      | cons z zs =>
        rw [ordN_cons] at h1 h2 ⊢
        by_cases e1 : x = y
        · subst e1
          rw [if_pos rfl] at h1
          by_cases e2 : x = z
          · subst e2
            rw [if_pos rfl] at h2 ⊢
            exact ih _ _ h1 h2
          · rw [if_neg e2] at h2 ⊢
            exact h2
        · rw [if_neg e1] at h1
          by_cases e2 : y = z
          · subst e2
            rw [if_neg e1]
            exact h1
          · rw [if_neg e2] at h2
            by_cases e3 : x = z
            · omega
            · rw [if_neg e3]
              omega
theorem alike_fold (a : List UInt8) : alikeB a (fold a) = true := by rw [alike_eq, fold_fold, decide_eq_true rfl]
theorem ahead_flet {a a' b b' : List UInt8} (h : fold a = fold a') (h' : fold b = fold b') : aheadB a b = aheadB a' b' := by
  unfold aheadB
  rw [(flet_iff a a').2 h, (flet_iff b b').2 h']
/-- Just one of three. -/
theorem order_one (a b : List UInt8) : (aheadB a b = true ∧ aheadB b a = false ∧ alikeB a b = false) ∨ (aheadB a b = false ∧ aheadB b a = true ∧ alikeB a b = false) ∨ (aheadB a b = false ∧ aheadB b a = false ∧ alikeB a b = true) := by
  unfold aheadB alikeB
  rw [ordN_neg (flet a) (flet b)]
  generalize ordN (flet a) (flet b) = z
  simp only [decide_eq_true_eq, decide_eq_false_iff_not]
  omega
theorem ahead_trans {a b c : List UInt8} (h1 : aheadB a b = true) (h2 : aheadB b c = true) : aheadB a c = true := by
  unfold aheadB at *
  exact decide_eq_true (ordN_trans _ _ _ (of_decide_eq_true h1) (of_decide_eq_true h2))
theorem alike_ahead {a b c : List UInt8} (h : alikeB a b = true) : aheadB a c = aheadB b c := by
  rw [alike_eq] at h
  exact ahead_flet (of_decide_eq_true h) rfl

structure Ent where
  name : ByteArray
  n : Int
def bts (s : ByteArray) : List UInt8 := s.data.toList
def ah (a b : ByteArray) : Bool := aheadB (bts a) (bts b)
def al (a b : ByteArray) : Bool := alikeB (bts a) (bts b)
theorem ah_one (a b : ByteArray) : (ah a b = true ∧ ah b a = false ∧ al a b = false) ∨ (ah a b = false ∧ ah b a = true ∧ al a b = false) ∨ (ah a b = false ∧ ah b a = false ∧ al a b = true) := order_one _ _
theorem ah_trans {a b c : ByteArray} (h1 : ah a b = true) (h2 : ah b c = true) : ah a c = true := ahead_trans h1 h2
theorem al_ah {a b c : ByteArray} (h : al a b = true) : ah a c = ah b c := alike_ahead h
theorem al_iff (a b : ByteArray) : al a b = true ↔ fold (bts a) = fold (bts b) := by
  unfold al
  rw [alike_eq, decide_eq_true_iff]
theorem al_symm {a b : ByteArray} (h : al a b = true) : al b a = true := (al_iff _ _).2 ((al_iff _ _).1 h).symm
theorem al_self (a : ByteArray) : al a a = true := (al_iff _ _).2 rfl
theorem al_trans {a b c : ByteArray} (h1 : al a b = true) (h2 : al b c = true) : al a c = true := (al_iff _ _).2 (((al_iff _ _).1 h1).trans ((al_iff _ _).1 h2))
theorem ah_al {a b c : ByteArray} (h : al a b = true) : ah c a = ah c b := ahead_flet rfl ((al_iff _ _).1 h)
theorem al_cong {a b c : ByteArray} (h : al a b = true) : al a c = al b c := by
  rw [Bool.eq_iff_iff]
  exact ⟨fun h1 => al_trans (al_symm h) h1, fun h1 => al_trans h h1⟩
/-- In order. -/
def Rise (l : List Ent) : Prop := l.Pairwise fun x y => ah x.name y.name = true
/-- Where a name stands, or would. -/
def plc (l : List Ent) (s : ByteArray) : Nat := (l.takeWhile fun x => ah x.name s).length
/-- What is found. -/
def fnd (l : List Ent) (s : ByteArray) : Option Ent := l.find? fun x => al x.name s
def put (l : List Ent) (s : ByteArray) (n : Int) : List Ent := l.take (plc l s) ++ ⟨s, n⟩ :: l.drop (plc l s)
def cut (l : List Ent) (s : ByteArray) : List Ent := l.take (plc l s) ++ l.drop (plc l s + 1)
theorem plc_le (l : List Ent) (s : ByteArray) : plc l s ≤ l.length := by
  unfold plc
  exact (List.takeWhile_sublist _).length_le
theorem plc_cons (x : Ent) (t : List Ent) (s : ByteArray) : plc (x :: t) s = if ah x.name s then plc t s + 1 else 0 := by
  unfold plc
  rw [List.takeWhile_cons]
  split <;> rfl
/-- Ahead of it just those ahead of the name. -/
theorem plc_iff : ∀ (l : List Ent), Rise l → ∀ (s : ByteArray) (i : Nat) (x : Ent), l[i]? = some x → (ah x.name s = true ↔ i < plc l s) := by
  intro l
  induction l with
  | nil => intro _ s i x h; simp at h
  | cons y t ih =>
    intro hr s i x h
    have hr2 : Rise t := (List.pairwise_cons.1 hr).2
    have hy := (List.pairwise_cons.1 hr).1
    rw [plc_cons]
    cases i with
    | zero =>
      simp at h
      subst h
      split
      · rename_i h1; simp [h1]
      · rename_i h1; simp [h1]
    | succ i =>
      have h' : t[i]? = some x := by simpa using h
      split
      · rw [ih hr2 s i x h']
        omega
      · rename_i h1
        refine ⟨fun h2 => absurd (ah_trans (hy x (List.mem_of_getElem? h')) h2) h1, fun h2 => by omega⟩
theorem fnd_some {l : List Ent} {s : ByteArray} {x : Ent} (h : fnd l s = some x) : x ∈ l ∧ al x.name s = true := ⟨List.mem_of_find?_eq_some h, by simpa using List.find?_some h⟩
theorem fnd_none {l : List Ent} {s : ByteArray} (h : fnd l s = none) : ∀ x ∈ l, al x.name s = false := by
  intro x hx
  have := List.find?_eq_none.1 h x hx
  simpa using this
/-- What is found stands at its place. -/
theorem fnd_at {l : List Ent} (hr : Rise l) {s : ByteArray} {x : Ent} (h : fnd l s = some x) : l[plc l s]? = some x := by
  obtain ⟨hx, ha⟩ := fnd_some h
  obtain ⟨i, hi⟩ := List.getElem?_of_mem hx
  have hil := (List.getElem?_eq_some_iff.1 hi).1
  have h1 : ¬ i < plc l s := fun h2 => by
    have h3 := (plc_iff l hr s i x hi).2 h2
    rcases ah_one x.name s with ⟨_, _, h4⟩ | ⟨h4, _, _⟩ | ⟨h4, _, _⟩
    · rw [ha] at h4; cases h4
    · rw [h3] at h4; cases h4
    · rw [h3] at h4; cases h4
  rcases Nat.lt_or_ge (plc l s) i with h2 | h2
  · have hp : plc l s < l.length := by omega
    have hj : l[plc l s]? = some l[plc l s] := List.getElem?_eq_getElem hp
    have h3 : ah (l[plc l s]).name x.name = true := by
      have := List.pairwise_iff_getElem.1 hr _ _ hp hil h2
      rw [(List.getElem?_eq_some_iff.1 hi).2] at this
      exact this
    rw [ah_al ha] at h3
    exact absurd ((plc_iff l hr s _ _ hj).1 h3) (Nat.lt_irrefl _)
  · rw [show plc l s = i by omega]
    exact hi
/-- What is not found: ahead of its place all are ahead, from there on it is ahead of all. -/
theorem fnd_not {l : List Ent} (hr : Rise l) {s : ByteArray} (h : fnd l s = none) {i : Nat} {x : Ent} (hi : l[i]? = some x) (hp : plc l s ≤ i) : ah s x.name = true := by
  have h1 : ¬ ah x.name s = true := fun h2 => by have := (plc_iff l hr s i x hi).1 h2; omega
  rcases ah_one x.name s with ⟨h4, _, _⟩ | ⟨_, h4, _⟩ | ⟨_, _, h4⟩
  · exact absurd h4 h1
  · exact h4
  · rw [fnd_none h x (List.mem_of_getElem? hi)] at h4
    cases h4
theorem put_rise {l : List Ent} (hr : Rise l) {s : ByteArray} (h : fnd l s = none) (n : Int) : Rise (put l s n) := by
  unfold put Rise
  rw [List.pairwise_append]
  refine ⟨hr.sublist (List.take_sublist _ _), List.pairwise_cons.2 ⟨fun x hx => ?_, hr.sublist (List.drop_sublist _ _)⟩, fun x hx y hy => ?_⟩
  · obtain ⟨i, hi⟩ := List.getElem?_of_mem hx
    rw [List.getElem?_drop] at hi
    exact fnd_not hr h hi (by omega)
  · obtain ⟨i, hi⟩ := List.getElem?_of_mem hx
    rw [List.getElem?_take] at hi
    split at hi
    · rename_i hip
      have hxs := (plc_iff l hr s i x hi).2 hip
      rcases List.mem_cons.1 hy with rfl | hy
      · exact hxs
      · obtain ⟨j, hj⟩ := List.getElem?_of_mem hy
        rw [List.getElem?_drop] at hj
        exact ah_trans hxs (fnd_not hr h hj (by omega))
    · cases hi
theorem cut_rise {l : List Ent} (hr : Rise l) (s : ByteArray) : Rise (cut l s) := by
  unfold cut
  refine List.Pairwise.sublist ?_ hr
  conv => rhs; rw [← List.take_append_drop (plc l s) l]
  refine List.Sublist.append (List.Sublist.refl _) ?_
  rw [← List.drop_drop]
  exact List.drop_sublist _ _
end Go.Proofs.YtkdjkndnilmjmaaDoor.U
/- dir: the map of numbers, told by the entries. -/
set_option linter.unusedVariables false
set_option linter.unusedSimpArgs false
namespace Go.Proofs.YtkdjkndnilmjmaaDoor.U
open Go.Maps

def hit (k : List UInt8) (x : Ent) : Bool := decide (fold (bts x.name) = k)
theorem hit_al (s : ByteArray) : hit (fold (bts s)) = fun x => al x.name s := by
  funext x
  rw [Bool.eq_iff_iff, al_iff]
  unfold hit
  rw [decide_eq_true_iff]
def MapOf (D : DataW Unit) (l : List Ent) : Prop := ∀ k : List UInt8, Maps.has D (.string k) = (l.find? (hit k)).isSome ∧ ∀ x, l.find? (hit k) = some x → D.atKey (.string k) (.lit (.int .i64 0)) = .lit (.int .i64 x.n)
theorem MapOf.nil : MapOf (.map []) [] := fun k => ⟨rfl, fun x h => by cases h⟩
theorem MapOf.get {D : DataW Unit} {l : List Ent} (h : MapOf D l) (s : ByteArray) : Maps.has D (.string (fold (bts s))) = (fnd l s).isSome ∧ ∀ x, fnd l s = some x → D.atKey (.string (fold (bts s))) (.lit (.int .i64 0)) = .lit (.int .i64 x.n) := by
  have := h (fold (bts s))
  rw [hit_al] at this
  exact this
theorem str_ne {a b : List UInt8} (h : a ≠ b) : (Lit.string a) ≠ .string b := fun e => h (by injection e)
theorem MapOf.put {D : DataW Unit} {l : List Ent} (h : MapOf D l) (hm : IsMap D) {s : ByteArray} (hf : fnd l s = none) (n : Int) : MapOf (D.put (.string (fold (bts s))) (.lit (.int .i64 n))) (put l s n) := by
  intro k
  have e1 : l.take (plc l s) ++ l.drop (plc l s) = l := List.take_append_drop _ _
  unfold U.put
  by_cases hk : fold (bts s) = k
  · subst hk
    have h1 : (l.take (plc l s)).find? (hit (fold (bts s))) = none := by
      rw [List.find?_eq_none]
      intro x hx
      rw [hit_al]
      have := fnd_none hf x (List.mem_of_mem_take hx)
      simp [this]
    rw [has_put_same hm (by trivial), atKey_put_same hm (by trivial), List.find?_append, h1, Option.none_or, List.find?_cons_of_pos (by simp [hit])]
    exact ⟨rfl, fun x hx => by injection hx with hx; rw [← hx]⟩
  · have hk2 : hit k ⟨s, n⟩ = false := by simp [hit, hk]
    rw [has_put_other (str_ne (Ne.symm hk)), atKey_put_other (str_ne (Ne.symm hk)), List.find?_append, List.find?_cons_of_neg (by simp [hk2]), ← List.find?_append, e1]
    exact h k
theorem split_at {l : List Ent} {i : Nat} {x : Ent} (h : l[i]? = some x) : l = l.take i ++ x :: l.drop (i + 1) := by
  obtain ⟨h1, h2⟩ := List.getElem?_eq_some_iff.1 h
  conv => lhs; rw [← List.take_append_drop i l, List.drop_eq_getElem_cons h1, h2]
theorem MapOf.cut {D : DataW Unit} {l : List Ent} (h : MapOf D l) (hm : IsMap D) (hr : Rise l) {s : ByteArray} {x : Ent} (hf : fnd l s = some x) : MapOf (D.del (.string (fold (bts s)))) (cut l s) := by
  intro k
  have hx := fnd_at hr hf
  have ha := (fnd_some hf).2
  have hl := split_at hx
  unfold U.cut
  by_cases hk : fold (bts s) = k
  · subst hk
    have h1 : (l.take (plc l s) ++ l.drop (plc l s + 1)).find? (hit (fold (bts s))) = none := by
      rw [List.find?_eq_none]
      intro y hy
      rw [hit_al]
      intro hys
      have hys : al y.name s = true := hys
      have hyx : al y.name x.name = true := al_trans hys (al_symm ha)
      rcases List.mem_append.1 hy with hy | hy
      · obtain ⟨j, hj⟩ := List.getElem?_of_mem hy
        rw [List.getElem?_take] at hj
        split at hj
        · rename_i hjp
          have h2 := (plc_iff l hr s j y hj).2 hjp
          rcases ah_one y.name s with ⟨_, _, h3⟩ | ⟨h3, _, _⟩ | ⟨h3, _, _⟩
          · rw [hys] at h3; cases h3
          · rw [h2] at h3; cases h3
          · rw [h2] at h3; cases h3
        · cases hj
      · obtain ⟨j, hj⟩ := List.getElem?_of_mem hy
        rw [List.getElem?_drop] at hj
        obtain ⟨p1, p2⟩ := List.getElem?_eq_some_iff.1 hx
        obtain ⟨p3, p4⟩ := List.getElem?_eq_some_iff.1 hj
        have h2 := List.pairwise_iff_getElem.1 hr _ _ p1 p3 (by omega)
        rw [p2, p4] at h2
        rcases ah_one y.name x.name with ⟨_, _, h3⟩ | ⟨_, _, h3⟩ | ⟨_, h3, _⟩
        · rw [hyx] at h3; cases h3
        · rw [hyx] at h3; cases h3
        · rw [h2] at h3; cases h3
    rw [has_del_same, h1]
    exact ⟨rfl, fun x hx => by cases hx⟩
  · have hk2 : hit k x = false := by
      unfold hit
      rw [decide_eq_false_iff_not, (al_iff _ _).1 ha]
      exact hk
    rw [has_del_other (str_ne (Ne.symm hk)), atKey_del_other (str_ne (Ne.symm hk))]
    have := h k
    rw [hl, List.find?_append, List.find?_cons_of_neg (by simp [hk2]), ← List.find?_append] at this
    exact this
end Go.Proofs.YtkdjkndnilmjmaaDoor.U
/- dir: of no directory, and of a zero one, all is refused; New. -/
set_option linter.unusedVariables false
set_option linter.unusedSimpArgs false
namespace Go.Proofs.YtkdjkndnilmjmaaDoor.U
open Go.RowKit Go.Proofs Go.Lib Go.Proofs.YtkdjkndnilmjmaaDoorW.PrintWords

/-- No directory, or a zero one. -/
def Off (w : World) (v : Value) : Prop := v = .pointer none ∨ ∃ D, v = .pointer (some ⟨D, 0, none⟩) ∧ D < w.heap.size ∧ w.cell? ⟨D, 1, none⟩ = some (.map none)
theorem Off.below {w w' : World} {v : Value} (h : Off w v) (hb : Below w.heap.size w w') : Off w' v := by
  rcases h with rfl | ⟨D, rfl, hD, hc⟩
  · exact .inl rfl
  · exact .inr ⟨D, rfl, Nat.lt_of_lt_of_le hD hb.size, (hb.cell (p := ⟨D, 1, none⟩) hD).trans hc⟩
theorem eqlSome (b : Nat) (w : World) : (binOp .eql 46 (.map (some b)) (.map none)).run Tryd.prog w = .ok (.bool false) w := by kernel_rfl
theorem eqlNone (w : World) : (binOp .eql 46 (.map none) (.map none)).run Tryd.prog w = .ok (.bool true) w := by kernel_rfl
set_option maxHeartbeats 2000000 in
set_option maxRecDepth 100000 in
theorem off_off (v : Value) (w : World) (h : Off w v) :
    Calls Tryd.prog 25 #[v] w fun e w' => e = .returned (.bool true) ∧ w' = w := by
  rcases h with rfl | ⟨D, rfl, _, hc⟩
  · go_enter Tryd.func25, Tryd.ntmps25
    go_wp2
    go_ret
    exact ⟨rfl, rfl⟩
  · have q0 := eqlNone
    go_enter Tryd.func25, Tryd.ntmps25
    go_wp2
    go_ret
    exact ⟨rfl, rfl⟩
set_option maxHeartbeats 2000000 in
set_option maxRecDepth 100000 in
theorem off_on (D M : Nat) (w : World) (hc : w.cell? ⟨D, 1, none⟩ = some (.map (some M))) :
    Calls Tryd.prog 25 #[.pointer (some ⟨D, 0, none⟩)] w fun e w' => e = .returned (.bool false) ∧ w' = w := by
  have q0 := eqlSome
  go_enter Tryd.func25, Tryd.ntmps25
  go_wp2
  go_ret
  exact ⟨rfl, rfl⟩
set_option maxHeartbeats 2000000 in
set_option maxRecDepth 100000 in
theorem Len_off (v : Value) (w : World) (h : Off w v) :
    Calls Tryd.prog 15 #[v] w fun e w' => e = .returned (.int .i64 0) ∧ w' = w := by
  have C := Lib.hid (off_off v w h)
  clear h
  go_enter Tryd.func15, Tryd.ntmps15
  go_wp2_with fail
  refine (C.out).mono ?_
  rintro e w1 ⟨rfl, rfl⟩
  go_wp2
  go_ret
  exact ⟨rfl, rfl⟩
set_option maxHeartbeats 2000000 in
set_option maxRecDepth 100000 in
theorem Find_off (v : Value) (s : ByteArray) (w : World) (h : Off w v) :
    Calls Tryd.prog 18 #[v, .string s] w fun e w' => e = .returned (.tuple #[.int .i64 0, .string ⟨#[]⟩, .int .i64 1]) ∧ w' = w := by
  have C := Lib.hid (off_off v w h)
  clear h
  go_enter Tryd.func18, Tryd.ntmps18
  go_wp2_with fail
  refine (C.out).mono ?_
  rintro e w1 ⟨rfl, rfl⟩
  go_wp2
  go_ret3
  exact ⟨rfl, rfl⟩
set_option maxHeartbeats 2000000 in
set_option maxRecDepth 100000 in
theorem Add_off (v : Value) (s : ByteArray) (n : Int) (w : World) (h : Off w v) :
    Calls Tryd.prog 17 #[v, .string s, .int .i64 n] w fun e w' => e = .returned (.int .i64 1) ∧ w' = w := by
  have C := Lib.hid (Find_off v s w h)
  clear h
  go_enter Tryd.func17, Tryd.ntmps17
  go_wp2_with fail
  refine (C.out).mono ?_
  rintro e w1 ⟨rfl, rfl⟩
  go_wp2
  go_ret
  exact ⟨rfl, rfl⟩
set_option maxHeartbeats 2000000 in
set_option maxRecDepth 100000 in
theorem Remove_off (v : Value) (s : ByteArray) (w : World) (h : Off w v) :
    Calls Tryd.prog 21 #[v, .string s] w fun e w' => e = .returned (.int .i64 1) ∧ w' = w := by
  have C := Lib.hid (Find_off v s w h)
  clear h
  go_enter Tryd.func21, Tryd.ntmps21
  go_wp2_with fail
  refine (C.out).mono ?_
  rintro e w1 ⟨rfl, rfl⟩
  go_wp2
  go_ret
  exact ⟨rfl, rfl⟩
set_option maxHeartbeats 2000000 in
set_option maxRecDepth 100000 in
theorem Rename_off (v : Value) (s t : ByteArray) (w : World) (h : Off w v) :
    Calls Tryd.prog 22 #[v, .string s, .string t] w fun e w' => e = .returned (.int .i64 1) ∧ w' = w := by
  have C := Lib.hid (off_off v w h)
  clear h
  go_enter Tryd.func22, Tryd.ntmps22
  go_wp2_with fail
  refine (C.out).mono ?_
  rintro e w1 ⟨rfl, rfl⟩
  go_wp2
  go_ret
  exact ⟨rfl, rfl⟩
set_option maxHeartbeats 4000000 in
set_option maxRecDepth 100000 in
theorem List_off (v : Value) (s t : ByteArray) (n : Int) (w : World) (h : Off w v) :
    Calls Tryd.prog 12 #[v, .string s, .string t, .int .i64 n] w fun e w' => e = .returned (.tuple #[.slice none 0 0, .bool false, .int .i64 1]) ∧ Below w.heap.size w w' := by
  have H := Lib.hid h
  clear h
  go_enter Tryd.func12, Tryd.ntmps12
  go_wp2_with fail
  refine (off_off v _ (H.out.below (by repeat first | exact Below.refl _ _ | refine Below.alloc ?_ (by simp; try omega) _))).mono ?_
  rintro e w1 ⟨rfl, rfl⟩
  go_wp2
  go_returns
  exact ⟨rfl, by go_grown⟩
end Go.Proofs.YtkdjkndnilmjmaaDoor.U
/- Regions that draw their order: a load is taken first where a condition S holds as long as the region's last operation has not come up. -/
namespace Go.Proofs.YtkdjkndnilmjmaaDoor.U
open Go

section
variable {P : Program} {ops : Array Oper} {Q : Exit → Act → World → Prop} {md : Region.Mode} {S : World → Prop} {z : Nat}

/-- Whatever order is picked from here on; S holds behind each operation but number z. -/
def AnyL (P : Program) (md : Region.Mode) (ops : Array Oper) (Q : Exit → Act → World → Prop) (S : World → Prop) (z : Nat) : Nat → Array Bool → Act → World → Prop
  | 0, listed, a, w => Region.ready md ops listed = [] ∧ Q .normal a w
  | fuel + 1, listed, a, w =>
    (Region.ready md ops listed = [] → Q .normal a w) ∧
    ∀ i ∈ Region.ready md ops listed, wpOp P ops Q i (fun a' w' => (i = z ∨ S w') ∧ AnyL P md ops Q S z fuel (listed.setIfInBounds i true) a' w') a w
theorem AnyL.any : ∀ (fuel : Nat) (listed : Array Bool) (a : Act) (w : World), AnyL P md ops Q S z fuel listed a w → wpAny P md ops Q fuel listed a w
  | 0, _, _, _, h => h
  | fuel + 1, _, _, _, h => ⟨h.1, fun i hi => wpOp_mono (fun a' w' h' => AnyL.any fuel _ a' w' h'.2) (h.2 i hi)⟩
/-- Number z waits for number i. -/
def waitsB (md : Region.Mode) (ops : Array Oper) (z i : Nat) : Bool :=
  match ops[z]? with
  | some oz => oz.after.any fun e => Region.binds md e && e.on == i
  | none => true
theorem waits_spec {i : Nat} {oz : Oper} (h : waitsB md ops z i = true) (hz : ops[z]? = some oz) : ∃ e ∈ oz.after, Region.binds md e = true ∧ e.on = i := by
  unfold waitsB at h
  rw [hz] at h
  obtain ⟨e, he, hb⟩ := Array.any_eq_true'.1 h
  simp only [Bool.and_eq_true, beq_iff_eq] at hb
  exact ⟨e, he, hb⟩
theorem AnyL.first {i : Nat} {oi : Oper} {v : Value} (hi : ops[i]? = some oi) (hsel : ∀ (j : Nat) (o : Oper) cs b, ops[j]? = some o → o.op ≠ .select cs b) (hz : waitsB md ops z i = true)
    (hQ : ∀ c a w, Q (.panic c) (a.put oi.dst v) w → Q (.panic c) a w) :
    ∀ (fuel : Nat) (listed : Array Bool) (a : Act) (w : World),
      (∀ j oj, ops[j]? = some oj → j ≠ i → listed.getD j true = false → (∀ e ∈ oj.after, Region.binds md e = true → e.on ≠ i) → oi.apart ops oj = true) →
      i ∈ Region.ready md ops listed → YieldsIf P ops S oi v a → S w →
      AnyL P md ops Q S z fuel (listed.setIfInBounds i true) (a.put oi.dst v) w → AnyL P md ops Q S z (fuel + 1) listed a w := by
  intro fuel
  induction fuel with
  | zero =>
    intro listed a w _ hr hy hS H
    refine ⟨fun h => (by rw [h] at hr; cases hr), fun j hj => ?_⟩
    by_cases hji : j = i
    · subst hji; exact hy.wpOp hi hS ⟨.inr hS, H⟩
    · have := ready_mono hj hji
      rw [H.1] at this
      cases this
  | succ fuel ih =>
    intro listed a w hfree hr hy hS H
    refine ⟨fun h => (by rw [h] at hr; cases hr), fun j hj => ?_⟩
    by_cases hji : j = i
    · subst hji; exact hy.wpOp hi hS ⟨.inr hS, H⟩
    · have h1 := H.2 j (ready_mono hj hji)
      obtain ⟨hjun, oj, hoj, hall⟩ := mem_ready.1 hj
      have hnot : ∀ e ∈ oj.after, Region.binds md e = true → e.on ≠ i := fun e he hb heq => by
        have h1 := hall e he hb
        have h0 := (mem_ready.1 hr).1
        rw [heq] at h1
        rcases Nat.lt_or_ge i listed.size with h' | h'
        · simp [h'] at h0 h1; rw [h0] at h1; cases h1
        · simp [Array.getElem?_eq_none h'] at h1
      have hjz : j ≠ z := fun e => by
        subst e
        obtain ⟨e, he, hb, hei⟩ := waits_spec hz hoj
        exact hnot e he hb hei
      have h2 := wpOp_putIf hoj (hfree j oj hoj hji hjun hnot) (fun cs b => hsel i oi cs b hi) (fun cs b => hsel j oj cs b hoj) hQ hy h1
      have hfree' : ∀ k ok, ops[k]? = some ok → k ≠ i → (listed.setIfInBounds j true).getD k true = false →
          (∀ e ∈ ok.after, Region.binds md e = true → e.on ≠ i) → oi.apart ops ok = true := fun k ok hk hki hun hno => by
        refine hfree k ok hk hki ?_ hno
        by_cases hjk : j = k
        · subst hjk; exact hjun
        · rw [getD_set_ne true hjk] at hun; exact hun
      refine wpOp_mono (fun a' w' h3 => ⟨h3.2.1, ih (listed.setIfInBounds j true) a' w' hfree' (ready_mono hr (Ne.symm hji)) h3.1 (h3.2.1.resolve_left hjz) ?_⟩) h2
      rw [Array.setIfInBounds_comm _ _ hji]
      exact h3.2.2
theorem AnyL.take {i : Nat} {oi : Oper} {v : Value} {fuel : Nat} {listed : Array Bool} {a : Act} {w : World} (hi0 : ops.toList[i]? = some oi)
    (hs : Region.noSelect ops = true) (hf : Region.free md ops listed i = true) (hr : (Region.ready md ops listed).contains i = true) (hz : waitsB md ops z i = true)
    (hQ : ∀ c a w, Q (.panic c) (a.put oi.dst v) w → Q (.panic c) a w) (hS : S w) (hy : YieldsIf P ops S oi v a)
    (h : AnyL P md ops Q S z fuel (listed.setIfInBounds i true) (a.put oi.dst v) w) : AnyL P md ops Q S z (fuel + 1) listed a w :=
  have hi : ops[i]? = some oi := by rw [← Array.getElem?_toList]; exact hi0
  AnyL.first hi (Region.noSelect_spec hs) hz hQ fuel listed a w (Region.free_spec hi hf) (by simpa using hr) hy hS h
theorem AnyL.one {i : Nat} {o : Oper} {fuel : Nat} {listed : Array Bool} {a : Act} {w : World} (hr : Region.ready md ops listed = [i]) (ho0 : ops.toList[i]? = some o)
    (h : ∀ K' : Act → World → Prop, Shut (∀ a w, (i = z ∨ S w) → AnyL P md ops Q S z fuel (listed.setIfInBounds i true) a w → K' a w) → if Region.wanted o (yielded ops a.tmps) = true then Oper.wp P o a w K' Q else K' (a.put o.dst undef) w) :
    AnyL P md ops Q S z (fuel + 1) listed a w := by
  refine ⟨fun h0 => (by rw [hr] at h0; cases h0), fun j hj => ?_⟩
  rw [hr, List.mem_singleton] at hj
  subst hj
  have ho : ops[j]? = some o := by rw [← Array.getElem?_toList]; exact ho0
  exact wpOp_step ho (fun K' hK => h K' (fun a w hS hW => hK a w ⟨hS, hW⟩))
theorem AnyL.two {i j : Nat} {o o' : Oper} {fuel : Nat} {listed : Array Bool} {a : Act} {w : World} (hr : Region.ready md ops listed = [i, j]) (ho0 : ops.toList[i]? = some o) (ho1 : ops.toList[j]? = some o')
    (h : ∀ K' : Act → World → Prop, Shut (∀ a w, (i = z ∨ S w) → AnyL P md ops Q S z fuel (listed.setIfInBounds i true) a w → K' a w) → if Region.wanted o (yielded ops a.tmps) = true then Oper.wp P o a w K' Q else K' (a.put o.dst undef) w)
    (h' : ∀ K' : Act → World → Prop, Shut (∀ a w, (j = z ∨ S w) → AnyL P md ops Q S z fuel (listed.setIfInBounds j true) a w → K' a w) → if Region.wanted o' (yielded ops a.tmps) = true then Oper.wp P o' a w K' Q else K' (a.put o'.dst undef) w) :
    AnyL P md ops Q S z (fuel + 1) listed a w := by
  refine ⟨fun h0 => (by rw [hr] at h0; cases h0), fun l hl => ?_⟩
  rw [hr] at hl
  simp only [List.mem_cons, List.not_mem_nil, or_false] at hl
  rcases hl with rfl | rfl
  · have ho : ops[l]? = some o := by rw [← Array.getElem?_toList]; exact ho0
    exact wpOp_step ho (fun K' hK => h K' (fun a w hS hW => hK a w ⟨hS, hW⟩))
  · have ho : ops[l]? = some o' := by rw [← Array.getElem?_toList]; exact ho1
    exact wpOp_step ho (fun K' hK => h' K' (fun a w hS hW => hK a w ⟨hS, hW⟩))
theorem AnyL.done {listed : Array Bool} {a : Act} {w : World} (hr : Region.ready md ops listed = []) (h : Q .normal a w) : ∀ fuel, AnyL P md ops Q S z fuel listed a w
  | 0 => ⟨hr, h⟩
  | _ + 1 => ⟨fun _ => h, by rw [hr]; simp⟩
theorem AnyL.start {id : Nat} {a : Act} {w : World} (S : World → Prop) (z : Nat) (hm : P.follows .mixedOrders = true) (hS : S w.drew) (h : S w.drew → AnyL P .any ops Q S z ops.size (Array.replicate ops.size false) a w.drew) : (Code.region id ops true).wp P Q a w :=
  wp_region_any hm (AnyL.any _ _ _ _ (h hS))
end
end Go.Proofs.YtkdjkndnilmjmaaDoor.U
/- dir: what stands in memory; where a name stands. -/
set_option linter.unusedVariables false
set_option linter.unusedSimpArgs false
namespace Go.Proofs.YtkdjkndnilmjmaaDoor.U
open Go.RowKit Go.Proofs Go.Lib Go.Proofs.YtkdjkndnilmjmaaDoorW.PrintWords Go.Maps

def strs (l : List Ent) : List Value := l.map fun x => .string x.name
theorem strs_len (l : List Ent) : (strs l).length = l.length := by simp [strs]
theorem strs_at {l : List Ent} {i : Nat} {x : Ent} (h : l[i]? = some x) : (strs l)[i]? = some (.string x.name) := by simp [strs, h]
/-- A text that may stand in a directory. -/
structure Txt (s : ByteArray) : Prop where
  ne : s ≠ ⟨#[]⟩
  ok : valid (bts s) = true
  sz : s.size ≤ 1048576
structure DirAt (w : World) (base D M : Nat) (l : List Ent) (vN : Value) (q : Nat) : Prop where
  head : w.heap[D]? = some (.cells #[vN, .map (some M)] 48 (0, 0))
  row : w.ownsRow base 9 1 vN l.length (strs l)
  map : ∃ Dt : DataW Unit, w.ownsMap Tryd.prog 9 (plainElem Tryd.prog 3) M q Dt ∧ MapOf Dt l
  rise : Rise l
  text : ∀ x ∈ l, Txt x.name ∧ (Lit.int .i64 x.n).wf = true
  bD : base ≤ D
  bM : base ≤ M
theorem map_stay {w w' : World} {b n : Nat} {D : DataW Unit} (h : w.ownsMap Tryd.prog 9 (plainElem Tryd.prog 3) b n D) (hb : w'.heap[b]? = w.heap[b]?) : w'.ownsMap Tryd.prog 9 (plainElem Tryd.prog 3) b n D := by
  obtain ⟨es, clock, h1, h2⟩ := h
  exact ⟨es, clock, hb.trans h1, h2⟩
theorem kept_below {w w' : World} (hb : Below w.heap.size w w') : ∀ (g : Nat) (o : Obj), w.heap[g]? = some o → w'.heap[g]? = some o := by
  intro g o h
  rw [hb.block g (Array.getElem?_eq_some_iff.1 h).1]
  exact h
theorem own_stay {w w' : World} {base : Nat} {e : TypeId} {size n : Nat} {v : Value} {xs : List Value} (h : w.ownsRow base e size v n xs) (hm : ∀ k, v.ownBlock = some k → w'.heap[k]? = w.heap[k]?) : w'.ownsRow base e size v n xs := by
  obtain ⟨h1, h2⟩ := h
  refine ⟨h1, ?_⟩
  rcases h2 with h2 | ⟨g, cap, cur, rfl, hg, hh, r⟩
  · exact .inl h2
  · exact .inr ⟨g, cap, cur, rfl, hg, (hm g (by simp [Value.ownBlock])).trans hh, r⟩
theorem own_type {w : World} {base : Nat} {e : TypeId} {size n : Nat} {v : Value} {xs : List Value} (h : w.ownsRow base e size v n xs) (k : Nat) (hk : v.ownBlock = some k) : ∃ cells, w.heap[k]? = some (.cells cells e (0, 0)) := by
  rcases h.2 with ⟨rfl, _⟩ | ⟨g, cap, cur, rfl, hg, hh, r⟩
  · simp [Value.ownBlock] at hk
  · have : g = k := by simpa [Value.ownBlock] using hk
    subst this
    exact ⟨cur, hh⟩
theorem own_form {w : World} {base : Nat} {e : TypeId} {size n : Nat} {v : Value} {xs : List Value} (h : w.ownsRow base e size v n xs) : ∃ A c, v = .slice A n c ∧ n ≤ c ∧ (A = none ∧ c = 0 ∨ ∃ g, A = some ⟨g, 0, none⟩ ∧ g < w.heap.size) := by
  rcases h.2 with ⟨rfl, rfl⟩ | ⟨g, cap, cur, rfl, _, hh, hc, _⟩
  · exact ⟨none, 0, rfl, Nat.le_refl _, .inl ⟨rfl, rfl⟩⟩
  · exact ⟨_, cap, rfl, hc, .inr ⟨g, rfl, (Array.getElem?_eq_some_iff.1 hh).1⟩⟩
section
variable {w w' : World} {base D M q : Nat} {l : List Ent} {vN : Value}
theorem DirAt.below (h : DirAt w base D M l vN q) (hb : Below w.heap.size w w') : DirAt w' base D M l vN q := by
  obtain ⟨Dt, h1, h2⟩ := h.map
  refine ⟨kept_below hb _ _ h.head, own_stay h.row fun k hk => ?_, ⟨Dt, map_stay h1 (hb.block M h1.lt), h2⟩, h.rise, h.text, h.bD, h.bM⟩
  obtain ⟨cs, hc⟩ := own_type h.row k hk
  rw [kept_below hb _ _ hc, hc]
theorem DirAt.lt (h : DirAt w base D M l vN q) : D < w.heap.size := (Array.getElem?_eq_some_iff.1 h.head).1
theorem DirAt.c0 (h : DirAt w base D M l vN q) : w.cell? ⟨D, 0, none⟩ = some vN := by rw [Lib.cell_of_heap h.head]; rfl
theorem DirAt.c1 (h : DirAt w base D M l vN q) : w.cell? ⟨D, 1, none⟩ = some (.map (some M)) := by rw [Lib.cell_of_heap h.head]; rfl
theorem DirAt.name (h : DirAt w base D M l vN q) {i : Nat} {x : Ent} (hi : l[i]? = some x) : ∃ g c, vN = .slice (some ⟨g, 0, none⟩) l.length c ∧ g < w.heap.size ∧ w.cell? ⟨g, i, none⟩ = some (.string x.name) := by
  have hlt := (List.getElem?_eq_some_iff.1 hi).1
  obtain ⟨A, c, e, hc, h1 | ⟨g, rfl, hg⟩⟩ := own_form h.row
  · omega
  · have hr := h.row
    rw [e] at hr
    exact ⟨g, c, e, hg, (hr.cellAt i (by omega)).trans (strs_at hi)⟩
end
set_option maxHeartbeats 4000000 in
set_option maxRecDepth 1000000 in
theorem place1_calls (D i b1 b2 n c g : Nat) (s t : ByteArray) (w : World) (q0 : w.cell? ⟨D, 0, none⟩ = some (.slice (some ⟨g, 0, none⟩) n c)) (q1 : w.cell? ⟨g, i, none⟩ = some (.string t)) (hin : i < n) (hn : n ≤ 1000000000) (hs : s.size ≤ 1048576) (ht : t.size ≤ 1048576)
    (h1 : w.cell? ⟨b1, 0, none⟩ = some (.pointer (some ⟨D, 0, none⟩))) (h2 : w.cell? ⟨b2, 0, none⟩ = some (.string s)) (hD : D < w.heap.size) (hg : g < w.heap.size) (hb1 : b1 < w.heap.size) (hb2 : b2 < w.heap.size) :
    Calls Tryd.prog 55 #[.int .i64 (i : Int), .pointer (some ⟨b1, 0, none⟩), .pointer (some ⟨b2, 0, none⟩)] w fun e w' => e = .returned (.bool (!ah t s)) ∧ Below w.heap.size w w' := by
  have i0 : (i : Int) < (n : Int) := by omega
  have cE := fun W => Ahead_calls t s W (by omega) (by omega)
  have CE := Lib.hid cE
  clear cE
  go_enter Tryd.func55, Tryd.ntmps55
  go_wp2_with fail
  go_region_held3 (fun w' => Below w.heap.size w w' ∧ w'.cell? ⟨b1, 0, none⟩ = some (.pointer (some ⟨D, 0, none⟩)) ∧ w'.cell? ⟨b2, 0, none⟩ = some (.string s) ∧ w'.cell? ⟨D, 0, none⟩ = some (.slice (some ⟨g, 0, none⟩) n c) ∧ w'.cell? ⟨g, i, none⟩ = some (.string t)) (first | exact ⟨below_drew1 (Below.refl _ _), h1, h2, q0, q1⟩ | exact ⟨(below_drew1 (Below.refl _ _)).trans hb, (hb.cell (p := ⟨b1, 0, none⟩) hb1).trans h1, (hb.cell (p := ⟨b2, 0, none⟩) hb2).trans h2, (hb.cell (p := ⟨D, 0, none⟩) hD).trans q0, (hb.cell (p := ⟨g, i, none⟩) hg).trans q1⟩) (first | (go_at_call 16; refine (CE.out _).mono ?_; rintro e w' ⟨rfl, hb⟩))
  go_wp2
  go_ret
  exact ⟨rfl, (below_drew1 (Below.refl _ _)).trans hb⟩
set_option maxHeartbeats 4000000 in
set_option maxRecDepth 1000000 in
theorem search_calls {base D M q : Nat} {l : List Ent} {vN : Value} (b1 b2 : Nat) (s : ByteArray) (w : World) (h : DirAt w base D M l vN q) (hl : l.length ≤ 1000000) (hs : s.size ≤ 1048576)
    (h1 : w.cell? ⟨b1, 0, none⟩ = some (.pointer (some ⟨D, 0, none⟩))) (h2 : w.cell? ⟨b2, 0, none⟩ = some (.string s)) (hb1 : b1 < w.heap.size) (hb2 : b2 < w.heap.size) :
    Calls Tryd.prog 54 #[.int .i64 l.length, .func (.func 55) #[] #[.pointer (some ⟨b1, 0, none⟩), .pointer (some ⟨b2, 0, none⟩)]] w fun e w' => e = .returned (.int .i64 (plc l s : Nat)) ∧ Below w.heap.size w w' := by
  have cF : ∀ (W : World) (hb : Below w.heap.size w W) (i : Nat) (x : Ent) (hi : l[i]? = some x), Calls Tryd.prog 55 #[.int .i64 (i : Int), .pointer (some ⟨b1, 0, none⟩), .pointer (some ⟨b2, 0, none⟩)] W fun e w' => e = .returned (.bool (!ah x.name s)) ∧ Below W.heap.size W w' := fun W hb i x hi => by
    have h' := h.below hb
    obtain ⟨g, c, rfl, hg, hc⟩ := h'.name hi
    exact place1_calls D i b1 b2 l.length c g s x.name W h'.c0 hc (List.getElem?_eq_some_iff.1 hi).1 (by omega) hs (h.text x (List.mem_of_getElem? hi)).1.sz ((hb.cell (p := ⟨b1, 0, none⟩) hb1).trans h1) ((hb.cell (p := ⟨b2, 0, none⟩) hb2).trans h2) h'.lt hg (Nat.lt_of_lt_of_le hb1 hb.size) (Nat.lt_of_lt_of_le hb2 hb.size)
  have hfr := plc_iff l h.rise s
  have hfl := plc_le l s
  generalize plc l s = fr at *
  have CF := Lib.hid cF
  have HFR := Lib.hid hfr
  clear cF hfr h h1 h2
  generalize hn : l.length = n at *
  have HN := Lib.hid hn
  clear hn
  go_enter Tryd.func54, Tryd.ntmps54
  go_wp2
  go_loopw [5, 6] (fun vi vj wr => ∃ i j : Nat, vi = .int .i64 (i : Int) ∧ vj = .int .i64 (j : Int) ∧ i ≤ fr ∧ fr ≤ j ∧ j ≤ n ∧ Below w.heap.size w wr) (fun vi vj _ => (RowKit.intOf vj).toNat - (RowKit.intOf vi).toNat)
  case atStart => exact ⟨0, n, rfl, rfl, Nat.zero_le _, hfl, Nat.le_refl _, Below.refl _ _⟩
  case round =>
    obtain ⟨i, j, rfl, rfl, hi, hj, hjn, hbw⟩ := hrel
    have HB := Lib.hid hbw
    clear hbw
    by_cases hlt : i < j
    · have d0 : decide ((i : Int) < (j : Int)) = true := by simp; omega
      obtain ⟨m, hm⟩ : ∃ m, (i + j) / 2 = m := ⟨_, rfl⟩
      obtain ⟨x, hx⟩ : ∃ x, l[m]? = some x := ⟨_, List.getElem?_eq_getElem (by have := HN.out; omega)⟩
      have cX := CF.out wr HB.out m x hx
      have hmi : ((i : Int) + (j : Int)) / 2 = (m : Int) := by omega
      have hiff := HFR.out m x hx
      have him : i ≤ m := by omega
      have hmj : m < j := by omega
      obtain ⟨a, ha⟩ : ∃ a, ah x.name s = a := ⟨_, rfl⟩
      rw [ha] at cX hiff
      have C := Lib.hid cX
      clear hm hx cX ha
      cases a with
      | false =>
        have hge : fr ≤ m := by
          rcases Nat.lt_or_ge m fr with h | h
          · exact absurd (hiff.2 h) (by decide)
          · exact h
        go_wp2_with fail
        refine (C.out).mono ?_
        rintro e w2 ⟨rfl, hb⟩
        have HB2 := Lib.hid (HB.out.trans (hb.mono HB.out.size))
        clear hb C
        go_wp2
        go_roundw
        case rel => exact ⟨i, m, rfl, rfl, hi, hge, by omega, HB2.out⟩
        case measure => simp only [RowKit.intOf, Int.toNat_natCast]; omega
      | true =>
        have hlt2 : m < fr := hiff.1 rfl
        go_wp2_with fail
        refine (C.out).mono ?_
        rintro e w2 ⟨rfl, hb⟩
        have HB2 := Lib.hid (HB.out.trans (hb.mono HB.out.size))
        clear hb C
        go_wp2
        go_roundw
        case rel => exact ⟨m + 1, j, by rw [Int.natCast_succ], rfl, hlt2, hj, hjn, HB2.out⟩
        case measure => simp only [RowKit.intOf, Int.toNat_natCast]; omega
    · have d0 : decide ((i : Int) < (j : Int)) = false := by simp; omega
      obtain rfl : i = fr := by omega
      go_wp2
      go_ret
      exact ⟨rfl, HB.out⟩
set_option maxHeartbeats 4000000 in
set_option maxRecDepth 1000000 in
theorem place_calls {base D M q : Nat} {l : List Ent} {vN : Value} (s : ByteArray) (w : World) (h : DirAt w base D M l vN q) (hl : l.length ≤ 1000000) (hs : s.size ≤ 1048576) :
    Calls Tryd.prog 34 #[.pointer (some ⟨D, 0, none⟩), .string s] w fun e w' => e = .returned (.int .i64 (plc l s : Nat)) ∧ Below w.heap.size w w' := by
  have hb1 : Below w.heap.size w (w.alloc (.cells #[.pointer (some ⟨D, 0, none⟩)] 23)) := (Below.refl _ _).alloc (Nat.le_refl _) _
  have hO1 := heap_alloc_new w (.cells #[.pointer (some ⟨D, 0, none⟩)] 23)
  obtain ⟨x1, hx1⟩ : ∃ wx, w.alloc (.cells #[.pointer (some ⟨D, 0, none⟩)] 23) = wx := ⟨_, rfl⟩
  rw [hx1] at hb1 hO1
  have hb2 : Below x1.heap.size x1 (x1.alloc (.cells #[.string s] 9)) := (Below.refl _ _).alloc (Nat.le_refl _) _
  have hO2 := heap_alloc_new x1 (.cells #[.string s] 9)
  obtain ⟨x2, hx2⟩ : ∃ wx, x1.alloc (.cells #[.string s] 9) = wx := ⟨_, rfl⟩
  rw [hx2] at hb2 hO2
  have hl1 : w.heap.size < x1.heap.size := (Array.getElem?_eq_some_iff.1 hO1).1
  have hl2 : x1.heap.size < x2.heap.size := (Array.getElem?_eq_some_iff.1 hO2).1
  have q1 : x2.cell? ⟨w.heap.size, 0, none⟩ = some (.pointer (some ⟨D, 0, none⟩)) := (hb2.cell (p := ⟨w.heap.size, 0, none⟩) hl1).trans (by rw [Lib.cell_of_heap hO1]; rfl)
  have q2 : x2.cell? ⟨x1.heap.size, 0, none⟩ = some (.string s) := by rw [Lib.cell_of_heap hO2]; rfl
  have hb12 := hb1.trans (hb2.mono hb1.size)
  have hd := h.below hb12
  have q3 := hd.c0
  obtain ⟨A, c, rfl, _⟩ := own_form h.row
  have C1 := Lib.hid (search_calls w.heap.size x1.heap.size s x2 hd hl hs q1 q2 (by omega) hl2)
  have HB := Lib.hid hb12
  clear hb1 hb2 hO1 hO2 hl1 hl2 q2 hd h hb12
  generalize l.length = n at *
  go_enter Tryd.func34, Tryd.ntmps34
  go_wp2_with fail
  refine (C1.out).mono ?_
  rintro e w2 ⟨rfl, hb⟩
  have HB2 := Lib.hid (HB.out.trans (hb.mono HB.out.size))
  clear hb
  go_wp2
  go_ret
  exact ⟨rfl, HB2.out⟩
end Go.Proofs.YtkdjkndnilmjmaaDoor.U
/- dir: is it a text. -/
set_option linter.unusedVariables false
set_option linter.unusedSimpArgs false
namespace Go.Proofs.YtkdjkndnilmjmaaDoor.U
open Go.RowKit Go.Proofs Go.Lib Go.Proofs.YtkdjkndnilmjmaaDoorW.PrintWords Go.Maps

set_option maxHeartbeats 2000000 in
set_option maxRecDepth 100000 in
theorem isText_calls (s : ByteArray) (w : World) (hs : s.size ≤ 1048576) (hT : Tabs w) :
    Calls Tryd.prog 27 #[.string s] w fun e w' => e = .returned (.bool (valid (bts s))) ∧ Below w.heap.size w w' := by
  have c1 := Units_calls s w (by omega) hT
  unfold errOf at c1
  unfold bts
  obtain ⟨v, hv⟩ : ∃ v, valid s.data.toList = v := ⟨_, rfl⟩
  rw [hv] at c1 ⊢
  cases v with
  | false =>
    rw [if_neg (by decide)] at c1
    have C1 := Lib.hid c1
    clear c1 hv hT
    go_enter Tryd.func27, Tryd.ntmps27
    go_wp2_with fail
    refine (C1.out).mono ?_
    rintro e w1 ⟨rfl, hb1⟩
    go_wp2
    go_ret
    exact ⟨rfl, hb1⟩
  | true =>
    rw [if_pos rfl] at c1
    have C1 := Lib.hid c1
    clear c1 hv hT
    go_enter Tryd.func27, Tryd.ntmps27
    go_wp2_with fail
    refine (C1.out).mono ?_
    rintro e w1 ⟨rfl, hb1⟩
    go_wp2
    go_ret
    exact ⟨rfl, hb1⟩
end Go.Proofs.YtkdjkndnilmjmaaDoor.U
/- dir: Find. -/
set_option linter.unusedVariables false
set_option linter.unusedSimpArgs false
namespace Go.Proofs.YtkdjkndnilmjmaaDoor.U
open Go.RowKit Go.Proofs Go.Lib Go.Proofs.YtkdjkndnilmjmaaDoorW.PrintWords Go.Maps

def numOf (l : List Ent) (s : ByteArray) : Int := ((fnd l s).map Ent.n).getD 0
def ownOf (l : List Ent) (s : ByteArray) : ByteArray := ((fnd l s).map Ent.name).getD ⟨#[]⟩
def errFnd (l : List Ent) (s : ByteArray) : Int := if (fnd l s).isSome then 0 else 7
def fs (s : ByteArray) : ByteArray := ⟨(fold (bts s)).toArray⟩
theorem zeroN (w : World) : (zeroValue 3).run Tryd.prog w = .ok (.int .i64 0) w := by kernel_rfl
theorem keyF (s : ByteArray) (hs : (fold (bts s)).length ≤ maxLen) : keyOf Tryd.prog 9 (.string (fs s)) = some (.string (fold (bts s))) := by
  have := Go.WideMaps.keyOf_string_mk (P := Tryd.prog) Tryd.underlying9 (s := fs s) (by show (fold (bts s)).toArray.size ≤ _; simpa using hs)
  rw [this]
  simp [fs]
set_option maxRecDepth 100000 in
theorem DirAt.look {w : World} {base D M q : Nat} {l : List Ent} {vN : Value} (h : DirAt w base D M l vN q) (s : ByteArray) (hs : (fold (bts s)).length ≤ maxLen) :
    (Instr.lookup 46 (.map (some M)) (.string (fs s)) true).run Tryd.prog w = .ok (.tuple #[.int .i64 (numOf l s), .bool (fnd l s).isSome]) w := by
  obtain ⟨Dt, h1, h2⟩ := h.map
  obtain ⟨g1, g2⟩ := h2.get s
  obtain ⟨v, ps, hr, hv⟩ := h1.look_ok (string_keyed Tryd.underlying9) Tryd.underlying46 (zeroN w) (plainElem_int Tryd.underlying3 (by decide)) (keyF s hs)
  obtain ⟨c, rfl, hc, _⟩ := plainElem_int_inv Tryd.underlying3 hv
  have hc := congrArg Prod.fst hc
  simp only at hc
  rw [hr, g1]
  unfold numOf
  cases hf : fnd l s with
  | none =>
    rw [hf] at g1
    rw [Maps.atKey_of_not_has g1] at hc
    injection hc with hc
    injection hc with _ hc
    subst hc
    simp only [Option.map_none, Option.getD_none]
  | some x =>
    rw [g2 x hf] at hc
    injection hc with hc
    injection hc with _ hc
    subst hc
    simp only [Option.map_some, Option.getD_some]
theorem str_beq (x y : ByteArray) : (x.toList == y.toList) = decide (x = y) := by
  by_cases h : x = y
  · subst h; simp
  · rw [decide_eq_false h, beq_eq_false_iff_ne]
    intro e
    exact h (ByteArray.ext (Array.toList_inj.1 (by rw [← ByteArray.toList_eq, ← ByteArray.toList_eq]; exact e)))
theorem list_ne {s : ByteArray} (h : s ≠ ⟨#[]⟩) : ¬ s.toList = [] := fun e => by
  apply h
  apply ByteArray.ext
  rw [ByteArray.toList_eq] at e
  exact Array.toList_inj.1 e
theorem list_ne2 {s : ByteArray} (h : s ≠ ⟨#[]⟩) : s.toList.isEmpty = false := by
  cases hl : s.toList with
  | nil => exact absurd hl (list_ne h)
  | cons => rfl
section
variable {w : World} {base D M q : Nat} {l : List Ent} {vN : Value}
set_option maxHeartbeats 4000000 in
set_option maxRecDepth 1000000 in
theorem Find_empty (h : DirAt w base D M l vN q) :
    Calls Tryd.prog 18 #[.pointer (some ⟨D, 0, none⟩), .string ⟨#[]⟩] w fun e w' => e = .returned (.tuple #[.int .i64 0, .string ⟨#[]⟩, .int .i64 5]) ∧ Below w.heap.size w w' := by
  have C1 := Lib.hid (off_on D M w h.c1)
  clear h
  go_enter Tryd.func18, Tryd.ntmps18
  go_wp2_with fail
  refine (C1.out).mono ?_
  rintro e w1 ⟨rfl, rfl⟩
  go_wp2
  go_ret3
  exact ⟨rfl, Below.refl _ _⟩
set_option maxHeartbeats 4000000 in
set_option maxRecDepth 1000000 in
theorem Find_form (s : ByteArray) (h : DirAt w base D M l vN q) (hne : s ≠ ⟨#[]⟩) (hv : valid (bts s) = false) (hs : s.size ≤ 1048576) (hT : Tabs w) :
    Calls Tryd.prog 18 #[.pointer (some ⟨D, 0, none⟩), .string s] w fun e w' => e = .returned (.tuple #[.int .i64 0, .string ⟨#[]⟩, .int .i64 5]) ∧ Below w.heap.size w w' := by
  have C1 := Lib.hid (off_on D M w h.c1)
  have c2 := isText_calls s w hs hT
  rw [hv] at c2
  have C2 := Lib.hid c2
  have d1 := list_ne hne
  have d2 := list_ne2 hne
  clear h c2 hv hT
  go_enter Tryd.func18, Tryd.ntmps18
  go_wp2_with fail
  refine (C1.out).mono ?_
  rintro e w1 ⟨rfl, rfl⟩
  go_wp2_with fail
  refine (C2.out).mono ?_
  rintro e w2 ⟨rfl, hb⟩
  go_wp2
  go_ret3
  exact ⟨rfl, hb⟩
set_option maxHeartbeats 4000000 in
set_option maxRecDepth 1000000 in
theorem Find_calls (s : ByteArray) (h : DirAt w base D M l vN q) (hx : Txt s) (hl : l.length ≤ 1000000) (hT : Tabs w) :
    Calls Tryd.prog 18 #[.pointer (some ⟨D, 0, none⟩), .string s] w fun e w' => e = .returned (.tuple #[.int .i64 (numOf l s), .string (ownOf l s), .int .i64 (errFnd l s)]) ∧ Below w.heap.size w w' := by
  have C1 := Lib.hid (off_on D M w h.c1)
  have hsz := hx.sz
  have c2 := isText_calls s w hsz hT
  rw [hx.ok] at c2
  have C2 := Lib.hid c2
  have hD := h.lt
  have d1 := list_ne hx.ne
  have d2 := list_ne2 hx.ne
  have C3 := Lib.hid (fun W => Fold_calls s W (by omega))
  have hlk := fun W (hW : Below w.heap.size w W) => (show (Instr.lookup 46 (.map (some M)) (.string ⟨(fold s.data.toList).toArray⟩) true).run Tryd.prog W = .ok (.tuple #[.int .i64 (numOf l s), .bool (fnd l s).isSome]) W from (h.below hW).look s (by rw [fold_length]; unfold bts maxLen; rw [Array.length_toList, ByteArray.size_data]; omega))
  have HLK := Lib.hid hlk
  have HH := Lib.hid h
  obtain ⟨b, hb⟩ : ∃ b, (fnd l s).isSome = b := ⟨_, rfl⟩
  obtain ⟨m, hm⟩ : ∃ m, numOf l s = m := ⟨_, rfl⟩
  obtain ⟨ow, how⟩ : ∃ ow, ownOf l s = ow := ⟨_, rfl⟩
  obtain ⟨er, her⟩ : ∃ er, errFnd l s = er := ⟨_, rfl⟩
  rw [hb, hm] at HLK
  rw [hm, how, her]
  have HF := Lib.hid (And.intro hb (And.intro hm (And.intro how her)))
  have hKS : ∀ W, Below w.heap.size w W → W.cell? ⟨D, 1, none⟩ = some (.map (some M)) ∧ (Instr.lookup 46 (.map (some M)) (.string ⟨(fold s.data.toList).toArray⟩) true).run Tryd.prog W = .ok (.tuple #[.int .i64 m, .bool b]) W := fun W hW => ⟨(HH.out.below hW).c1, HLK.out W hW⟩
  have KS := Lib.hid hKS
  clear h c2 hT hlk hb hm how her hKS HLK
  go_enter Tryd.func18, Tryd.ntmps18
  go_wp2_with fail
  refine (C1.out).mono ?_
  rintro e w1 ⟨rfl, rfl⟩
  go_wp2_with fail
  refine (C2.out).mono ?_
  rintro e w2 ⟨rfl, hb2⟩
  have hb3 := hb2.trans (below_drew1 (Below.refl w2.heap.size w2) |>.mono hb2.size)
  have HB2 := Lib.hid hb3
  have hS0 := KS.out _ hb3
  clear hb2 C1 C2
  go_wp2_with fail
  refine AnyL.start (fun w' => w'.cell? ⟨D, 1, none⟩ = some (.map (some M)) ∧ (Instr.lookup 46 (.map (some M)) (.string ⟨(fold s.data.toList).toArray⟩) true).run Tryd.prog w' = .ok (.tuple #[.int .i64 m, .bool b]) w') 99 (by kernel_rfl) hS0 (fun hHeld => ?_)
  refine AnyL.take (i := 0) (v := ?vy0) rfl (by kernel_rfl) (by kernel_rfl) (by kernel_rfl) (by kernel_rfl) (fun _ _ _ h => h) (by assumption) (Or.inl ⟨by rfl, ?y0⟩) ?ry0
  case y0 => (intro w hSw; (try dsimp only at hSw); go_simp; try with_reducible rfl)
  try simp only [Act.put, List.setIfInBounds_toArray, List.set_cons_zero, List.set_cons_succ]
  refine AnyL.take (i := 1) (v := ?vy1) rfl (by kernel_rfl) (by kernel_rfl) (by kernel_rfl) (by kernel_rfl) (fun _ _ _ h => h) (by assumption) (Or.inl ⟨by rfl, ?y1⟩) ?ry1
  case y1 => (intro w hSw; (try dsimp only at hSw); go_simp; try with_reducible rfl)
  try simp only [Act.put, List.setIfInBounds_toArray, List.set_cons_zero, List.set_cons_succ]
  refine AnyL.take (i := 2) (v := ?vy2) rfl (by kernel_rfl) (by kernel_rfl) (by kernel_rfl) (by kernel_rfl) (fun _ _ _ h => h) (by assumption) (Or.inl ⟨by rfl, ?y2⟩) ?ry2
  case y2 => (intro w hSw; (try dsimp only at hSw); go_simp; try with_reducible rfl)
  try simp only [Act.put, List.setIfInBounds_toArray, List.set_cons_zero, List.set_cons_succ]
  refine AnyL.take (i := 3) (v := ?vy3) rfl (by kernel_rfl) (by kernel_rfl) (by kernel_rfl) (by kernel_rfl) (fun _ _ _ h => h) (by assumption) (Or.inl ⟨by rfl, ?y3⟩) ?ry3
  case y3 => (intro w hSw; (try dsimp only at hSw); go_simp; try with_reducible rfl)
  try simp only [Act.put, List.setIfInBounds_toArray, List.set_cons_zero, List.set_cons_succ]
  refine AnyL.take (i := 4) (v := ?vy4) rfl (by kernel_rfl) (by kernel_rfl) (by kernel_rfl) (by kernel_rfl) (fun _ _ _ h => h) (by assumption) (Or.inl ⟨by rfl, ?y4⟩) ?ry4
  case y4 => (intro w hSw; (try dsimp only at hSw); go_simp; try with_reducible rfl)
  try simp only [Act.put, List.setIfInBounds_toArray, List.set_cons_zero, List.set_cons_succ]
  refine AnyL.one (i := 5) (by kernel_rfl) rfl (fun K hK => ?_)
  go_simp
  refine (C3.out _).mono ?_
  rintro e w5 ⟨rfl, hb5⟩
  have hb5' := hb3.trans (hb5.mono hb3.size)
  refine hK.out _ _ (.inr (KS.out _ hb5')) ?_
  clear hHeld hK K
  have hHeld := KS.out _ hb5'
  try simp only [Act.put, List.setIfInBounds_toArray, List.set_cons_zero, List.set_cons_succ]
  refine AnyL.one (i := 6) (by kernel_rfl) rfl (fun K hK => ?_)
  go_simp
  refine hK.out _ _ (.inr hHeld) ?_
  clear hK K
  try simp only [Act.put, List.setIfInBounds_toArray, List.set_cons_zero, List.set_cons_succ]
  refine AnyL.take (i := 7) (v := ?vz7) rfl (by kernel_rfl) (by kernel_rfl) (by kernel_rfl) (by kernel_rfl) (fun _ _ _ h => h) (by assumption) (Or.inl ⟨by rfl, ?z7⟩) ?rz7
  case z7 => (intro w hSw; (try dsimp only at hSw); go_simp; try with_reducible rfl)
  try simp only [Act.put, List.setIfInBounds_toArray, List.set_cons_zero, List.set_cons_succ]
  refine AnyL.take (i := 8) (v := ?vz8) rfl (by kernel_rfl) (by kernel_rfl) (by kernel_rfl) (by kernel_rfl) (fun _ _ _ h => h) (by assumption) (Or.inl ⟨by rfl, ?z8⟩) ?rz8
  case z8 => (intro w hSw; (try dsimp only at hSw); go_simp; try with_reducible rfl)
  try simp only [Act.put, List.setIfInBounds_toArray, List.set_cons_zero, List.set_cons_succ]
  refine AnyL.take (i := 9) (v := ?vz9) rfl (by kernel_rfl) (by kernel_rfl) (by kernel_rfl) (by kernel_rfl) (fun _ _ _ h => h) (by assumption) (Or.inl ⟨by rfl, ?z9⟩) ?rz9
  case z9 => (intro w hSw; (try dsimp only at hSw); go_simp; try with_reducible rfl)
  try simp only [Act.put, List.setIfInBounds_toArray, List.set_cons_zero, List.set_cons_succ]
  refine AnyL.take (i := 10) (v := ?vz10) rfl (by kernel_rfl) (by kernel_rfl) (by kernel_rfl) (by kernel_rfl) (fun _ _ _ h => h) (by assumption) (Or.inl ⟨by rfl, ?z10⟩) ?rz10
  case z10 => (intro w hSw; (try dsimp only at hSw); go_simp; try with_reducible rfl)
  try simp only [Act.put, List.setIfInBounds_toArray, List.set_cons_zero, List.set_cons_succ]
  refine AnyL.take (i := 11) (v := ?vz11) rfl (by kernel_rfl) (by kernel_rfl) (by kernel_rfl) (by kernel_rfl) (fun _ _ _ h => h) (by assumption) (Or.inl ⟨by rfl, ?z11⟩) ?rz11
  case z11 => (intro w hSw; (try dsimp only at hSw); go_simp; try with_reducible rfl)
  try simp only [Act.put, List.setIfInBounds_toArray, List.set_cons_zero, List.set_cons_succ]
  refine AnyL.done (by kernel_rfl) ?_ _
  have HB5 := Lib.hid hb5'
  clear hHeld hS0 hb3 hb5 hb5' C3 KS
  cases b with
  | false =>
    go_wp2
    go_ret3
    obtain ⟨h1, h2, h3, h4⟩ := HF.out
    have h0 : fnd l s = none := by cases hf : fnd l s with
      | none => rfl
      | some x => rw [hf] at h1; cases h1
    have e2 : m = 0 := by rw [← h2]; unfold numOf; rw [h0]; rfl
    have e3 : ow = ⟨#[]⟩ := by rw [← h3]; unfold ownOf; rw [h0]; rfl
    have e4 : er = 7 := by rw [← h4]; unfold errFnd; rw [h0]; rfl
    rw [e2, e3, e4]
    exact ⟨rfl, HB5.out⟩
  | true =>
    obtain ⟨h1, h2, h3, h4⟩ := HF.out
    obtain ⟨x, hf⟩ : ∃ x, fnd l s = some x := Option.isSome_iff_exists.1 h1
    have e3 : ow = x.name := by rw [← h3]; unfold ownOf; rw [hf]; rfl
    have e4 : er = 0 := by rw [← h4]; unfold errFnd; rw [hf]; rfl
    have HX := Lib.hid (And.intro e3 e4)
    have hat := fnd_at HH.out.rise hf
    have hd5 := HH.out.below HB5.out
    have hd6 := hd5.below (below_drew1 (Below.refl _ _))
    have hplt := (List.getElem?_eq_some_iff.1 hat).1
    obtain ⟨g, c, rfl, hg, hc⟩ := hd6.name hat
    have cP := place_calls s w5.drew hd6 hl hsz
    obtain ⟨k, hk⟩ : ∃ k, plc l s = k := ⟨_, rfl⟩
    obtain ⟨n, hn⟩ : ∃ n, l.length = n := ⟨_, rfl⟩
    rw [hk] at hc cP hplt
    rw [hn] at hplt
    have CP := Lib.hid cP
    have q0 := hd6.c0
    rw [hn] at q0
    have hDl := hd6.lt
    have i1 : (k : Int) < (n : Int) := by omega
    clear hd5 hd6 hat hf h1 h2 h3 h4 e3 e4 cP hk hn HF
    go_wp2_with fail
    refine AnyL.start (fun w' => w'.cell? ⟨D, 0, none⟩ = some (.slice (some ⟨g, 0, none⟩) n c) ∧ w'.cell? ⟨g, k, none⟩ = some (.string x.name)) 99 (by kernel_rfl) ⟨q0, hc⟩ (fun hHeld => ?_)
    refine AnyL.take (i := 0) (v := ?vp0) rfl (by kernel_rfl) (by kernel_rfl) (by kernel_rfl) (by kernel_rfl) (fun _ _ _ h => h) (by assumption) (Or.inl ⟨by rfl, ?p0⟩) ?rp0
    case p0 => (intro w hSw; (try dsimp only at hSw); go_simp; try with_reducible rfl)
    try simp only [Act.put, List.setIfInBounds_toArray, List.set_cons_zero, List.set_cons_succ]
    refine AnyL.take (i := 1) (v := ?vp1) rfl (by kernel_rfl) (by kernel_rfl) (by kernel_rfl) (by kernel_rfl) (fun _ _ _ h => h) (by assumption) (Or.inl ⟨by rfl, ?p1⟩) ?rp1
    case p1 => (intro w hSw; (try dsimp only at hSw); go_simp; try with_reducible rfl)
    try simp only [Act.put, List.setIfInBounds_toArray, List.set_cons_zero, List.set_cons_succ]
    refine AnyL.take (i := 2) (v := ?vp2) rfl (by kernel_rfl) (by kernel_rfl) (by kernel_rfl) (by kernel_rfl) (fun _ _ _ h => h) (by assumption) (Or.inl ⟨by rfl, ?p2⟩) ?rp2
    case p2 => (intro w hSw; (try dsimp only at hSw); go_simp; try with_reducible rfl)
    try simp only [Act.put, List.setIfInBounds_toArray, List.set_cons_zero, List.set_cons_succ]
    refine AnyL.take (i := 3) (v := ?vp3) rfl (by kernel_rfl) (by kernel_rfl) (by kernel_rfl) (by kernel_rfl) (fun _ _ _ h => h) (by assumption) (Or.inl ⟨by rfl, ?p3⟩) ?rp3
    case p3 => (intro w hSw; (try dsimp only at hSw); go_simp; try with_reducible rfl)
    try simp only [Act.put, List.setIfInBounds_toArray, List.set_cons_zero, List.set_cons_succ]
    refine AnyL.take (i := 4) (v := ?vp4) rfl (by kernel_rfl) (by kernel_rfl) (by kernel_rfl) (by kernel_rfl) (fun _ _ _ h => h) (by assumption) (Or.inl ⟨by rfl, ?p4⟩) ?rp4
    case p4 => (intro w hSw; (try dsimp only at hSw); go_simp; try with_reducible rfl)
    try simp only [Act.put, List.setIfInBounds_toArray, List.set_cons_zero, List.set_cons_succ]
    refine AnyL.take (i := 5) (v := ?vp5) rfl (by kernel_rfl) (by kernel_rfl) (by kernel_rfl) (by kernel_rfl) (fun _ _ _ h => h) (by assumption) (Or.inl ⟨by rfl, ?p5⟩) ?rp5
    case p5 => (intro w hSw; (try dsimp only at hSw); go_simp; try with_reducible rfl)
    try simp only [Act.put, List.setIfInBounds_toArray, List.set_cons_zero, List.set_cons_succ]
    refine AnyL.take (i := 6) (v := ?vp6) rfl (by kernel_rfl) (by kernel_rfl) (by kernel_rfl) (by kernel_rfl) (fun _ _ _ h => h) (by assumption) (Or.inl ⟨by rfl, ?p6⟩) ?rp6
    case p6 => (intro w hSw; (try dsimp only at hSw); go_simp; try with_reducible rfl)
    try simp only [Act.put, List.setIfInBounds_toArray, List.set_cons_zero, List.set_cons_succ]
    refine AnyL.one (i := 7) (by kernel_rfl) rfl (fun K hK => ?_)
    go_simp
    refine (CP.out).mono ?_
    rintro e w7 ⟨rfl, hb7⟩
    have hS7 : w7.cell? ⟨D, 0, none⟩ = some (.slice (some ⟨g, 0, none⟩) n c) ∧ w7.cell? ⟨g, k, none⟩ = some (.string x.name) := ⟨(hb7.cell (p := ⟨D, 0, none⟩) hDl).trans q0, (hb7.cell (p := ⟨g, k, none⟩) hg).trans hc⟩
    refine hK.out _ _ (.inr hS7) ?_
    clear hHeld hK K
    have hHeld := hS7
    try simp only [Act.put, List.setIfInBounds_toArray, List.set_cons_zero, List.set_cons_succ]
    refine AnyL.take (i := 8) (v := ?vr8) rfl (by kernel_rfl) (by kernel_rfl) (by kernel_rfl) (by kernel_rfl) (fun _ _ _ h => h) (by assumption) (Or.inl ⟨by rfl, ?r8⟩) ?rr8
    case r8 => (intro w hSw; (try dsimp only at hSw); go_simp; try with_reducible rfl)
    try simp only [Act.put, List.setIfInBounds_toArray, List.set_cons_zero, List.set_cons_succ]
    refine AnyL.take (i := 9) (v := ?vr9) rfl (by kernel_rfl) (by kernel_rfl) (by kernel_rfl) (by kernel_rfl) (fun _ _ _ h => h) (by assumption) (Or.inl ⟨by rfl, ?r9⟩) ?rr9
    case r9 => (intro w hSw; (try dsimp only at hSw); go_simp; try with_reducible rfl)
    try simp only [Act.put, List.setIfInBounds_toArray, List.set_cons_zero, List.set_cons_succ]
    refine AnyL.take (i := 10) (v := ?vr10) rfl (by kernel_rfl) (by kernel_rfl) (by kernel_rfl) (by kernel_rfl) (fun _ _ _ h => h) (by assumption) (Or.inl ⟨by rfl, ?r10⟩) ?rr10
    case r10 => (intro w hSw; (try dsimp only at hSw); go_simp; try with_reducible rfl)
    try simp only [Act.put, List.setIfInBounds_toArray, List.set_cons_zero, List.set_cons_succ]
    refine AnyL.take (i := 11) (v := ?vr11) rfl (by kernel_rfl) (by kernel_rfl) (by kernel_rfl) (by kernel_rfl) (fun _ _ _ h => h) (by assumption) (Or.inl ⟨by rfl, ?r11⟩) ?rr11
    case r11 => (intro w hSw; (try dsimp only at hSw); go_simp; try with_reducible rfl)
    try simp only [Act.put, List.setIfInBounds_toArray, List.set_cons_zero, List.set_cons_succ]
    refine AnyL.take (i := 12) (v := ?vr12) rfl (by kernel_rfl) (by kernel_rfl) (by kernel_rfl) (by kernel_rfl) (fun _ _ _ h => h) (by assumption) (Or.inl ⟨by rfl, ?r12⟩) ?rr12
    case r12 => (intro w hSw; (try dsimp only at hSw); go_simp; try with_reducible rfl)
    try simp only [Act.put, List.setIfInBounds_toArray, List.set_cons_zero, List.set_cons_succ]
    refine AnyL.done (by kernel_rfl) ?_ _
    have HB7 := Lib.hid (HB5.out.trans (((below_drew1 (Below.refl w5.heap.size w5)).trans hb7).mono HB5.out.size))
    clear hHeld hS7 q0 hc hb7 CP
    go_wp2
    go_ret3
    exact ⟨by rw [HX.out.1, HX.out.2]; rfl, HB7.out⟩
end
end Go.Proofs.YtkdjkndnilmjmaaDoor.U
/- dir: slices.Insert and slices.Delete on a row of the program's own. -/
set_option linter.unusedVariables false
set_option linter.unusedSimpArgs false
namespace Go.Proofs.YtkdjkndnilmjmaaDoor.U
open Go.RowKit Go.Proofs Go.Lib Go.Proofs.YtkdjkndnilmjmaaDoorW.PrintWords Go.Maps

theorem own_mk {w : World} {base g n cap : Nat} {cur : Array Value} {l : List Value} (hh : w.heap[g]? = some (.cells cur 9 (0, 0))) (hl : l.length = n) (hb : base ≤ g) (hc : n ≤ cap) (hm : cap ≤ maxLen) (hs : cur.size = cap) (ht : cur.toList.take n = l) : w.ownsRow base 9 1 (.slice (some ⟨g, 0, none⟩) n cap) n l :=
  ⟨by rw [hl, Nat.mul_one], .inr ⟨g, cap, cur, rfl, hb, hh, hc, hm, by rw [hs, Nat.mul_one], by rw [Nat.mul_one]; exact ht⟩⟩
theorem grown_set {w : World} (g o : Nat) (vs : List Value) : w.grownBy (w.setCells g o vs) (some g) := by
  obtain ⟨h1, h2, h3, h4⟩ := setCells_same g vs o w
  exact ⟨h1, h2, h3, by rw [h4]; exact Nat.le_refl _, fun k _ hk => setCells_far vs o k (fun e => hk (by rw [e]))⟩
/-- What is put in. -/
def Put (w : World) (base : Nat) (v : Value) (n : Nat) (l : List Value) (w' : World) (v' : Value) : Prop := w'.ownsRow base 9 1 v' (n + 1) l ∧ w.grownBy w' v.ownBlock ∧ ∀ k, v'.ownBlock = some k → v.ownBlock = some k ∨ w.heap.size ≤ k
theorem Insert_calls (w : World) (base : Nat) (v : Value) (n i V : Nat) (l : List Value) (x : Value) (hown : w.ownsRow base 9 1 v n l) (h1 : ∀ u ∈ l, u.oneCell' = true) (hi : i ≤ n) (hn : n ≤ 1000000) (hV : w.heap[V]? = some (.cells #[x] 9 (0, 0))) (hx : x.oneCell' = true) (hVne : v.ownBlock ≠ some V) (hbase : base ≤ w.heap.size) :
    Calls Tryd.prog 33 #[v, .int .i64 (i : Int), .slice (some ⟨V, 0, none⟩) 1 1] w fun e w' => ∃ v', e = .returned v' ∧ Put w base v n (l.take i ++ x :: l.drop i) w' v' := by
  have hll := hown.1
  rw [Nat.mul_one] at hll
  have hvs : ∀ (j : Nat) (u : Value), [x][j]? = some u → w.cell? ⟨V, 0 + j, none⟩ = some u := fun j u hj => by
    cases j with
    | zero => rw [Lib.cell_of_heap hV]; exact hj
    | succ j => simp at hj
  have hx1 : ∀ u ∈ [x], u.oneCell' = true := fun u hu => by rw [List.mem_singleton.1 hu]; exact hx
  have hlen : (l.take i ++ x :: l.drop i).length = n + 1 := by rw [List.length_append, List.length_take, List.length_cons, List.length_drop]; omega
  rcases hown.2 with ⟨rfl, rfl⟩ | ⟨g, cap, cur, rfl, hbg, hg, hnc, hcm, hcs, htake⟩
  · obtain rfl : l = [] := List.eq_nil_of_length_eq_zero hll
    obtain rfl : i = 0 := by omega
    refine (Any2.slices_Insert_string_end_grow Tryd.laysIns none 0 0 V 0 1 1 [] [x] w (by decide) (by decide) (by decide) (by decide) rfl rfl (fun _ => rfl) (fun a e => by cases e) hvs hx1).mono ?_
    rintro e w' ⟨rfl, rfl⟩
    have hge := grownCap_ge w (0 + 1) 0 9
    have hle := grownCap_le_maxLen w (0 + 1) 0 9 (by unfold maxLen; omega)
    refine ⟨_, rfl, own_mk (heap_alloc_new w.drew _) rfl hbase hge hle ?_ ?_, ⟨rfl, rfl, rfl, by simp, fun k hk _ => heap_alloc_old w.drew _ hk⟩, fun k hk => ?_⟩
    · simp only [Array.size_append, List.size_toArray, size_zeroCells, List.length_append, List.length_singleton, List.length_nil]
      show 0 + 1 + (grownCap w (0 + 1) 0 9 - (0 + 1)) * 1 = grownCap w (0 + 1) 0 9
      omega
    · rw [Array.toList_append]
      exact List.take_left' rfl
    · simp only [Value.ownBlock, Option.some.injEq] at hk
      exact .inr (by rw [← hk]; exact Nat.le_refl _)
  · rw [Nat.mul_one] at hcs htake
    have hc63 : cap ≤ 9223372036854775807 := by unfold maxLen at hcm; omega
    have hgw : g < w.heap.size := (Array.getElem?_eq_some_iff.1 hg).1
    have hcell : ∀ (j : Nat) (u : Value), l[j]? = some u → w.cell? ⟨g, 0 + j, none⟩ = some u := fun j u hj => by
      rw [Nat.zero_add, hown.cellAt j (by have := (List.getElem?_eq_some_iff.1 hj).1; omega)]
      exact hj
    have hsome : ∀ j, j < cap → (w.cell? ⟨g, 0 + j, none⟩).isSome = true := fun j hj => by
      rw [Nat.zero_add, Lib.cell_of_heap hg, Array.getElem?_eq_getElem (by omega)]
      rfl
    have hfz : ∀ j : Nat, w.frozen? ⟨g, j, none⟩ = false := fun j => Lib.frozen_of_heap hg j
    by_cases hin : i = n
    · subst hin
      have e1 : l.take i ++ x :: l.drop i = l ++ [x] := by rw [List.take_of_length_le (by omega), List.drop_eq_nil_of_le (by omega)]
      rw [e1] at hlen ⊢
      by_cases hroom : i + 1 ≤ cap
      · refine (Any2.slices_Insert_string_end_room Tryd.laysIns g 0 i cap V 0 1 1 [x] w (by decide) hroom hc63 rfl (fun j hj => by rw [Nat.add_assoc]; exact hsome _ (by omega)) (fun j hj => hfz _) hvs hx1).mono ?_
        rintro e w' ⟨rfl, rfl⟩
        obtain ⟨cur', c1, c2, c3⟩ := setCells_row [x] (0 + i) w cur hg (by simp; omega)
        refine ⟨_, rfl, own_mk c1 hlen hbg hroom hcm (by rw [c2, hcs]) ?_, grown_set _ _ _, fun k hk => .inl hk⟩
        rw [c3, Nat.zero_add, htake]
        exact List.take_left' hlen
      · refine (Any2.slices_Insert_string_end_grow Tryd.laysIns (some ⟨g, 0, none⟩) i cap V 0 1 1 l [x] w (by decide) hnc (by omega) (by omega) hll rfl (fun e => by cases e) (fun a e j u hj => by
          injection e with e
          subst e
          rw [Addr.add_lit]
          exact hcell j u hj) hvs hx1).mono ?_
        rintro e w' ⟨rfl, rfl⟩
        have hge := grownCap_ge w (i + 1) cap 9
        have hle := grownCap_le_maxLen w (i + 1) cap 9 (by unfold maxLen; omega)
        refine ⟨_, rfl, own_mk (heap_alloc_new w.drew _) hlen hbase hge hle ?_ ?_, ⟨rfl, rfl, rfl, by simp, fun k hk _ => heap_alloc_old w.drew _ hk⟩, fun k hk => ?_⟩
        · simp only [Array.size_append, List.size_toArray, size_zeroCells, hlen]
          show i + 1 + (grownCap w (i + 1) cap 9 - (i + 1)) * 1 = grownCap w (i + 1) cap 9
          omega
        · rw [Array.toList_append]
          exact List.take_left' hlen
        · simp only [Value.ownBlock, Option.some.injEq] at hk
          exact .inr (by rw [← hk]; exact Nat.le_refl _)
    · have hlt : i < n := by omega
      have hdl : (l.drop i).length = n - i := by rw [List.length_drop]; omega
      by_cases hroom : n + 1 ≤ cap
      · refine (Any2.slices_Insert_string_shift Tryd.laysIns g 0 n cap i V 0 1 1 l [x] w hlt (by decide) hroom hc63 (fun e => hVne (by rw [e]; rfl)) hll rfl hcell (fun j hj => hsome j (by omega)) (fun j hj => hfz _) hvs h1 hx1 9 9 1 cur.size (by simp [World.shape?, hV]) (by simp [World.shape?, hg]) (by omega) (Lib.frozen_of_heap hV 0) (Lib.frozen_of_heap hV 1)).mono ?_
        rintro e w' ⟨rfl, rfl⟩
        obtain ⟨cur1, c1, c2, c3⟩ := setCells_row (l.drop i) (0 + (i + 1)) w.drew cur hg (by rw [hdl]; omega)
        obtain ⟨cur2, k1, k2, k3⟩ := setCells_row [x] (0 + i) _ cur1 c1 (by simp; omega)
        refine ⟨_, rfl, own_mk k1 hlen hbg hroom hcm (by rw [k2, c2, hcs]) ?_, (show w.grownBy w.drew (some g) from ⟨rfl, rfl, rfl, Nat.le_refl _, fun _ _ _ => rfl⟩).trans ((grown_set _ _ _).trans (grown_set _ _ _)), fun k hk => .inl hk⟩
        have t1 : cur1.toList.take i = l.take i := by
          rw [c3, Nat.zero_add, List.append_assoc, List.take_append_of_le_length (by rw [List.length_take, Array.length_toList]; omega), List.take_take, ← htake, List.take_take]
          congr 1
          omega
        have t2 : cur1.toList.drop (i + 1) = l.drop i ++ cur.toList.drop (i + 1 + (l.drop i).length) := by
          rw [c3, Nat.zero_add, List.append_assoc, List.drop_left' (by rw [List.length_take, Array.length_toList]; omega)]
        rw [k3, Nat.zero_add, List.length_singleton, t1, t2, List.append_assoc, List.singleton_append, ← List.cons_append, ← List.append_assoc]
        exact List.take_left' hlen
      · refine (Any2.slices_Insert_string_grow Tryd.laysIns g 0 n cap i V 0 1 1 l [x] w hlt (by decide) hnc (by omega) (by omega) hll rfl hcell hvs h1 hx1).mono ?_
        rintro e w' ⟨rfl, rfl⟩
        have hge := grownCap_ge w (n + 1) cap 9
        have hle := grownCap_le_maxLen w (n + 1) cap 9 (by unfold maxLen; omega)
        obtain ⟨G, hG⟩ : ∃ G, grownCap w (n + 1) cap 9 = G := ⟨_, rfl⟩
        have hz : (Value.string ⟨#[]⟩).cells.size = 1 := rfl
        have et : Tryd.laysIns_ren.t 9 = 9 := rfl
        rw [et, hG]
        rw [hG] at hge hle
        obtain ⟨cs, hcs0⟩ : ∃ cs, (l.take i).toArray ++ Builtin.zeroCells (Value.string ⟨#[]⟩).cells (n + 1 - i) ++ Builtin.zeroCells (Value.string ⟨#[]⟩).cells (G - (n + 1)) = cs := ⟨_, rfl⟩
        have hcz : cs.size = G := by
          rw [← hcs0, Array.size_append, Array.size_append, size_zeroCells, size_zeroCells, hz, List.size_toArray, List.length_take]
          omega
        have hct : cs.toList.take i = l.take i := by
          rw [← hcs0, Array.toList_append, Array.toList_append, List.append_assoc]
          exact List.take_left' (by simp; omega)
        rw [hcs0]
        have hA := heap_alloc_new w (.cells cs 9)
        obtain ⟨cur1, c1, c2, c3⟩ := setCells_row [x] i (w.alloc (.cells cs 9)).drew cs hA (by rw [List.length_singleton]; omega)
        obtain ⟨cur2, k1, k2, k3⟩ := setCells_row (l.drop i) (i + 1) (((w.alloc (.cells cs 9)).drew.setCells w.heap.size i [x]).drew) cur1 c1 (by rw [hdl]; omega)
        refine ⟨_, rfl, own_mk k1 hlen hbase hge hle (by rw [k2, c2, hcz]) ?_, ?_, fun k hk => ?_⟩
        · have t1 : cur1.toList.take (i + 1) = l.take i ++ [x] := by
            rw [c3, hct, List.append_assoc, ← List.append_assoc]
            exact List.take_left' (by rw [List.length_append, List.length_take, List.length_singleton]; omega)
          rw [k3, t1, List.append_assoc, List.append_assoc, List.singleton_append, ← List.cons_append, ← List.append_assoc]
          exact List.take_left' hlen
        · obtain ⟨a1, a2, a3, a4⟩ := setCells_same w.heap.size (l.drop i) (i + 1) (((w.alloc (.cells cs 9)).drew.setCells w.heap.size i [x]).drew)
          obtain ⟨b1, b2, b3, b4⟩ := setCells_same w.heap.size [x] i (w.alloc (.cells cs 9)).drew
          refine ⟨a1.trans b1, a2.trans b2, a3.trans b3, ?_, fun k hk _ => ?_⟩
          · rw [a4]
            show w.heap.size ≤ ((w.alloc (.cells cs 9)).drew.setCells w.heap.size i [x]).heap.size
            rw [b4]
            simp
          · rw [setCells_far _ _ k (by omega)]
            show ((w.alloc (.cells cs 9)).drew.setCells w.heap.size i [x]).heap[k]? = _
            rw [setCells_far _ _ k (by omega)]
            exact heap_alloc_old w _ hk
        · simp only [Value.ownBlock, Option.some.injEq] at hk
          exact .inr (by rw [← hk]; exact Nat.le_refl _)
end Go.Proofs.YtkdjkndnilmjmaaDoor.U
/- dir: slices.Delete on a row of the program's own. -/
set_option linter.unusedVariables false
set_option linter.unusedSimpArgs false
namespace Go.Proofs.YtkdjkndnilmjmaaDoor.U
open Go.RowKit Go.Proofs Go.Lib Go.Proofs.YtkdjkndnilmjmaaDoorW.PrintWords Go.Maps Go.Sort

theorem strs_enc (l : List Ent) : (l.map fun x => x.name.data.toList).map encStr = strs l := by
  unfold strs
  rw [List.map_map]
  apply List.map_congr_left
  intro x _
  simp [encStr]
theorem grown_putRow {α : Type} [Inhabited α] {enc : α → Value} {w : World} {g q : Nat} {d : Array α} : w.grownBy (putRow enc (Sort.ahead w q) g 0 d) (some g) :=
  ⟨rfl, rfl, rfl, by simp [putRow, mapBlock, Sort.ahead], fun k hk hne => by
    have : g ≠ k := fun e => hne (by rw [e])
    simp [putRow, mapBlock, Sort.ahead, Array.getElem?_modify, this]⟩
theorem Delete_calls (w : World) (base : Nat) (v : Value) (i : Nat) (l : List Ent) (hown : w.ownsRow base 9 1 v l.length (strs l)) (hi : i < l.length) :
    Calls Tryd.prog 38 #[v, .int .i64 (i : Int), .int .i64 ((i + 1 : Nat) : Int)] w fun e w' => ∃ v', e = .returned v' ∧ w'.ownsRow base 9 1 v' (l.take i ++ l.drop (i + 1)).length (strs (l.take i ++ l.drop (i + 1))) ∧ w.grownBy w' v.ownBlock ∧ v'.ownBlock = v.ownBlock := by
  rw [← strs_enc] at hown
  obtain ⟨g, cap, rfl, hb, hg, hc, hm, hl, hH⟩ := holds_of_ownsRow hown (fun e => by
    subst e
    rcases hown.2 with ⟨_, h0⟩ | ⟨_, _, _, e, _⟩
    · omega
    · cases e)
  have hd := Tryd.slices_Delete_string g 0 cap i (i + 1) (l.map fun x => x.name.data.toList) w hH (by rw [List.length_map]; exact hc) (by unfold maxLen at hm; omega) (Nat.le_succ _) (by rw [List.length_map]; omega)
  rw [List.length_map] at hd
  refine hd.mono ?_
  rintro e w' ⟨rfl, q, rfl⟩
  have hlen : (l.take i ++ l.drop (i + 1)).length = l.length - (i + 1 - i) := by rw [List.length_append, List.length_take, List.length_drop]; omega
  refine ⟨_, rfl, ?_, grown_putRow, rfl⟩
  have hy : (((l.map fun x => x.name.data.toList).take i ++ (l.map fun x => x.name.data.toList).drop (i + 1) ++ List.replicate (i + 1 - i) []) : List (List UInt8)).length = l.length := by
    rw [List.length_append, List.length_append, List.length_take, List.length_drop, List.length_map, List.length_replicate]
    omega
  have h2 := ownsRow_putRow (q := q) (k := l.length - (i + 1 - i)) hown hy (by omega)
  have h3 : (((l.map fun x => x.name.data.toList).take i ++ (l.map fun x => x.name.data.toList).drop (i + 1) ++ List.replicate (i + 1 - i) []) : List (List UInt8)).take (l.length - (i + 1 - i)) = (l.take i ++ l.drop (i + 1)).map fun x => x.name.data.toList := by
    rw [List.take_left' (by rw [List.length_append, List.length_take, List.length_drop, List.length_map]; omega), List.map_append, List.map_take, List.map_drop]
  rw [h3, strs_enc] at h2
  rw [hlen]
  exact h2
end Go.Proofs.YtkdjkndnilmjmaaDoor.U
/- dir: what an act leaves in memory. -/
set_option linter.unusedVariables false
set_option linter.unusedSimpArgs false
namespace Go.Proofs.YtkdjkndnilmjmaaDoor.U
open Go.RowKit Go.Proofs Go.Lib Go.Proofs.YtkdjkndnilmjmaaDoorW.PrintWords Go.Maps

theorem ne_block {w : World} {a b : Nat} {ca cb : Array Value} {ta tb : TypeId} {fa fb : Nat × Nat} (ha : w.heap[a]? = some (.cells ca ta fa)) (hb : w.heap[b]? = some (.cells cb tb fb)) (hne : ta ≠ tb) : a ≠ b := fun e => by
  rw [e, hb] at ha
  injection ha with ha
  injection ha with _ h _
  exact hne h.symm
/-- The two blocks and the row, the map's datum named. -/
structure Core (w : World) (base D M n : Nat) (ns : List Value) (vN : Value) (q : Nat) (Dt : DataW Unit) : Prop where
  head : w.heap[D]? = some (.cells #[vN, .map (some M)] 48 (0, 0))
  row : w.ownsRow base 9 1 vN n ns
  map : w.ownsMap Tryd.prog 9 (plainElem Tryd.prog 3) M q Dt
  bD : base ≤ D
  bM : base ≤ M
/-- All but the directory's own blocks stand. -/
structure FrD (w w' : World) (D M : Nat) (vN : Value) : Prop where
  os : w'.os = w.os
  tape : w'.tape = w.tape
  output : w'.output = w.output
  size : w.heap.size ≤ w'.heap.size
  block : ∀ k : Nat, k < w.heap.size → k ≠ D → k ≠ M → vN.ownBlock ≠ some k → w'.heap[k]? = w.heap[k]?
def SameV (w : World) (v v' : Value) : Prop := ∀ k, v'.ownBlock = some k → v.ownBlock = some k ∨ w.heap.size ≤ k
section
variable {w w1 w2 : World} {base D M n q : Nat} {ns : List Value} {vN v1 v2 : Value} {Dt : DataW Unit}
theorem FrD.refl (w : World) (D M : Nat) (vN : Value) : FrD w w D M vN := ⟨rfl, rfl, rfl, Nat.le_refl _, fun _ _ _ _ _ => rfl⟩
theorem FrD.of_below (h : Below w.heap.size w w1) (D M : Nat) (vN : Value) : FrD w w1 D M vN := ⟨h.os, h.tape, h.output, h.size, fun k hk _ _ _ => h.block k hk⟩
theorem FrD.trans (h : FrD w w1 D M vN) (h' : FrD w1 w2 D M v1) (hs : SameV w vN v1) : FrD w w2 D M vN :=
  ⟨h'.os.trans h.os, h'.tape.trans h.tape, h'.output.trans h.output, Nat.le_trans h.size h'.size, fun k hk a b c =>
    (h'.block k (Nat.lt_of_lt_of_le hk h.size) a b (fun e => by
      rcases hs k e with h5 | h5
      · exact c h5
      · omega)).trans (h.block k hk a b c)⟩
theorem FrD.below (h : FrD w w1 D M vN) {B : Nat} {w0 : World} (h0 : Below B w0 w) (hB : B ≤ w0.heap.size) (hD : B ≤ D) (hM : B ≤ M) (hN : ∀ k, vN.ownBlock = some k → B ≤ k) : Below B w0 w1 :=
  ⟨h.os.trans h0.os, h.tape.trans h0.tape, h.output.trans h0.output, Nat.le_trans h0.size h.size, fun k hk =>
    (h.block k (Nat.lt_of_lt_of_le hk (Nat.le_trans hB h0.size)) (by omega) (by omega) (fun e => by have := hN k e; omega)).trans (h0.block k hk)⟩
theorem SameV.refl (w : World) (v : Value) : SameV w v v := fun _ h => .inl h
theorem SameV.trans (h : SameV w vN v1) (hw : w.heap.size ≤ w1.heap.size) (h' : SameV w1 v1 v2) : SameV w vN v2 := fun k e => by
  rcases h' k e with h5 | h5
  · exact h k h5
  · exact .inr (by omega)
theorem Core.below (h : Core w base D M n ns vN q Dt) (hb : Below w.heap.size w w1) : Core w1 base D M n ns vN q Dt := by
  refine ⟨kept_below hb _ _ h.head, own_stay h.row fun k hk => ?_, map_stay h.map (hb.block M h.map.lt), h.bD, h.bM⟩
  obtain ⟨cs, hc⟩ := own_type h.row k hk
  rw [kept_below hb _ _ hc, hc]
theorem Core.c0 (h : Core w base D M n ns vN q Dt) : w.cell? ⟨D, 0, none⟩ = some vN := by rw [Lib.cell_of_heap h.head]; rfl
theorem Core.c1 (h : Core w base D M n ns vN q Dt) : w.cell? ⟨D, 1, none⟩ = some (.map (some M)) := by rw [Lib.cell_of_heap h.head]; rfl
theorem Core.f (h : Core w base D M n ns vN q Dt) (j : Nat) : w.frozen? ⟨D, j, none⟩ = false := Lib.frozen_of_heap h.head j
theorem Core.lt (h : Core w base D M n ns vN q Dt) : D < w.heap.size := (Array.getElem?_eq_some_iff.1 h.head).1
theorem Core.mD (h : Core w base D M n ns vN q Dt) : M ≠ D := fun e => by
  obtain ⟨es, clock, h1, _⟩ := h.map
  rw [e, h.head] at h1
  cases h1
theorem Core.mN (h : Core w base D M n ns vN q Dt) : vN.ownBlock ≠ some M := fun e => by
  obtain ⟨es, clock, h1, _⟩ := h.map
  obtain ⟨cs, hc⟩ := own_type h.row M e
  rw [h1] at hc
  cases hc
theorem Core.nD (h : Core w base D M n ns vN q Dt) : vN.ownBlock ≠ some D := fun e => by
  obtain ⟨cs, hc⟩ := own_type h.row D e
  exact ne_block hc h.head (by decide) rfl
/-- Another row of names. -/
theorem Core.names (h : Core w base D M n ns vN q Dt) {n' : Nat} {ns' : List Value} (hr : w1.ownsRow base 9 1 v1 n' ns') (hg : w.grownBy w1 vN.ownBlock) (hs : SameV w vN v1) :
    Core (w1.setCell ⟨D, 0, none⟩ v1) base D M n' ns' v1 q Dt ∧ FrD w (w1.setCell ⟨D, 0, none⟩ v1) D M vN := by
  have hh : w1.heap[D]? = w.heap[D]? := hg.block D h.lt (fun e => h.nD e.symm)
  have hm : w1.heap[M]? = w.heap[M]? := hg.block M h.map.lt (fun e => h.mN e.symm)
  have ho : ∀ k, k ≠ D → (w1.setCell ⟨D, 0, none⟩ v1).heap[k]? = w1.heap[k]? := fun k hk => Below.heap_setCell w1 ⟨D, 0, none⟩ v1 k hk
  have hsz : (w1.setCell ⟨D, 0, none⟩ v1).heap.size = w1.heap.size := by simp [World.setCell]
  refine ⟨⟨?_, own_stay hr fun k hk => ho k (fun e => ?_), map_stay h.map ((ho M h.mD).trans hm), h.bD, h.bM⟩, hg.os, hg.tape, hg.output, by rw [hsz]; exact hg.size, fun k hk a b c => ?_⟩
  · simp only [World.setCell, Array.getElem?_modify, if_true, hh.trans h.head, Option.map_some]
    rfl
  · subst e
    obtain ⟨cs, hc⟩ := own_type hr k hk
    exact ne_block hc (hh.trans h.head) (by decide) rfl
  · rw [ho k a]
    exact hg.block k hk (fun e => c e.symm)
/-- Another map. -/
theorem Core.turned (h : Core w base D M n ns vN q Dt) {q' : Nat} {Dt' : DataW Unit} (hm : w1.ownsMap Tryd.prog 9 (plainElem Tryd.prog 3) M q' Dt') (hg : w.grownBy w1 (some M)) :
    Core w1 base D M n ns vN q' Dt' ∧ FrD w w1 D M vN := by
  have ho : ∀ k, k < w.heap.size → k ≠ M → w1.heap[k]? = w.heap[k]? := fun k hk hne => hg.block k hk (fun e => hne (by injection e))
  refine ⟨⟨(ho D h.lt (Ne.symm h.mD)).trans h.head, own_stay h.row fun k hk => ?_, hm, h.bD, h.bM⟩, hg.os, hg.tape, hg.output, hg.size, fun k hk _ b _ => ho k hk b⟩
  obtain ⟨cs, hc⟩ := own_type h.row k hk
  exact ho k (Array.getElem?_eq_some_iff.1 hc).1 (fun e => h.mN (by rw [← e]; exact hk))
end
theorem DirAt.core {w : World} {base D M q : Nat} {l : List Ent} {vN : Value} (h : DirAt w base D M l vN q) : ∃ Dt, Core w base D M l.length (strs l) vN q Dt ∧ MapOf Dt l := by
  obtain ⟨Dt, h1, h2⟩ := h.map
  exact ⟨Dt, ⟨h.head, h.row, h1, h.bD, h.bM⟩, h2⟩
theorem Core.dir {w : World} {base D M q : Nat} {l : List Ent} {vN : Value} {Dt : DataW Unit} (h : Core w base D M l.length (strs l) vN q Dt) (hm : MapOf Dt l) (hr : Rise l) (ht : ∀ x ∈ l, Txt x.name ∧ (Lit.int .i64 x.n).wf = true) : DirAt w base D M l vN q :=
  ⟨h.head, h.row, ⟨Dt, h.map, hm⟩, hr, ht, h.bD, h.bM⟩
end Go.Proofs.YtkdjkndnilmjmaaDoor.U
/- dir: Add. -/
set_option linter.unusedVariables false
set_option linter.unusedSimpArgs false
namespace Go.Proofs.YtkdjkndnilmjmaaDoor.U
open Go.RowKit Go.Proofs Go.Lib Go.Proofs.YtkdjkndnilmjmaaDoorW.PrintWords Go.Maps

section
variable {w : World} {base D M q : Nat} {l : List Ent} {vN : Value}
set_option maxHeartbeats 4000000 in
set_option maxRecDepth 1000000 in
theorem Add_of5 (v : Value) (s : ByteArray) (n m : Int) (o : ByteArray) (cF : Calls Tryd.prog 18 #[v, .string s] w fun e w' => e = .returned (.tuple #[.int .i64 m, .string o, .int .i64 5]) ∧ Below w.heap.size w w') :
    Calls Tryd.prog 17 #[v, .string s, .int .i64 n] w fun e w' => e = .returned (.int .i64 5) ∧ Below w.heap.size w w' := by
  have C1 := Lib.hid cF
  clear cF
  go_enter Tryd.func17, Tryd.ntmps17
  go_wp2_with fail
  refine (C1.out).mono ?_
  rintro e w1 ⟨rfl, hb⟩
  go_wp2
  go_ret
  exact ⟨rfl, hb⟩
set_option maxHeartbeats 4000000 in
set_option maxRecDepth 1000000 in
theorem Add_of0 (v : Value) (s : ByteArray) (n m : Int) (o : ByteArray) (cF : Calls Tryd.prog 18 #[v, .string s] w fun e w' => e = .returned (.tuple #[.int .i64 m, .string o, .int .i64 0]) ∧ Below w.heap.size w w') :
    Calls Tryd.prog 17 #[v, .string s, .int .i64 n] w fun e w' => e = .returned (.int .i64 8) ∧ Below w.heap.size w w' := by
  have C1 := Lib.hid cF
  clear cF
  go_enter Tryd.func17, Tryd.ntmps17
  go_wp2_with fail
  refine (C1.out).mono ?_
  rintro e w1 ⟨rfl, hb⟩
  go_wp2
  go_ret
  exact ⟨rfl, hb⟩
/-- An act is done. -/
def StepD (w : World) (base D M : Nat) (vN : Value) (l' : List Ent) (q' : Nat) (w' : World) : Prop := ∃ vN', DirAt w' base D M l' vN' q' ∧ FrD w w' D M vN ∧ SameV w vN vN'
theorem plc_put (l : List Ent) (s : ByteArray) (n : Int) : strs (put l s n) = (strs l).take (plc l s) ++ .string s :: (strs l).drop (plc l s) := by
  unfold put strs
  rw [List.map_append, List.map_cons, List.map_take, List.map_drop]
theorem put_len (l : List Ent) (s : ByteArray) (n : Int) : (put l s n).length = l.length + 1 := by
  have := plc_le l s
  unfold put
  rw [List.length_append, List.length_take, List.length_cons, List.length_drop]
  omega
theorem put_mem {l : List Ent} {s : ByteArray} {n : Int} {x : Ent} (h : x ∈ put l s n) : x = ⟨s, n⟩ ∨ x ∈ l := by
  unfold put at h
  rcases List.mem_append.1 h with h | h
  · exact .inr (List.mem_of_mem_take h)
  · rcases List.mem_cons.1 h with h | h
    · exact .inl h
    · exact .inr (List.mem_of_mem_drop h)
theorem strs_one (l : List Ent) : ∀ u ∈ strs l, u.oneCell' = true := by
  intro u hu
  obtain ⟨x, _, rfl⟩ := List.mem_map.1 hu
  rfl
set_option maxHeartbeats 8000000 in
set_option maxRecDepth 1000000 in
theorem Add_calls (s : ByteArray) (n : Int) (h : DirAt w base D M l vN q) (hx : Txt s) (hn : (Lit.int .i64 n).wf = true) (hl : l.length ≤ 1000) (hq : q ≤ 1000) (hbase : base ≤ w.heap.size) (hT : Tabs w) (hf : fnd l s = none) :
    Calls Tryd.prog 17 #[.pointer (some ⟨D, 0, none⟩), .string s, .int .i64 n] w fun e w' => e = .returned (.int .i64 0) ∧ StepD w base D M vN (put l s n) (q + 1) w' := by
  have hsz := hx.sz
  have c1 := Find_calls s h hx (by omega) hT
  have e1 : errFnd l s = 7 := by unfold errFnd; rw [hf]; rfl
  rw [e1] at c1
  have C1 := Lib.hid c1
  have C3 := Lib.hid (fun W => Fold_calls s W (by omega))
  have HH := Lib.hid h
  have HF := Lib.hid hf
  have HX := Lib.hid (And.intro hx hn)
  clear c1 e1 hT h hf hx hn
  go_enter Tryd.func17, Tryd.ntmps17
  go_wp2_with fail
  refine (C1.out).mono ?_
  rintro e w1 ⟨rfl, hb1⟩
  have hb2 := hb1.trans ((below_drew1 (Below.refl w1.heap.size w1)).mono hb1.size)
  have h2 := HH.out.below hb2
  have q0 := h2.c0
  have hD2 := h2.lt
  have C4 := Lib.hid (place_calls s _ h2 (by omega) hsz)
  have HB2 := Lib.hid hb2
  clear hb1 C1
  go_wp2_with fail
  refine AnyL.start (fun w' => w'.cell? ⟨D, 0, none⟩ = some vN) 13 (by kernel_rfl) q0 (fun hHeld => ?_)
  refine AnyL.take (i := 0) (v := ?vy0) rfl (by kernel_rfl) (by kernel_rfl) (by kernel_rfl) (by kernel_rfl) (fun _ _ _ h => h) (by assumption) (Or.inl ⟨by rfl, ?y0⟩) ?ry0
  case y0 => (intro w hSw; (try dsimp only at hSw); go_simp; try with_reducible rfl)
  try simp only [Act.put, List.setIfInBounds_toArray, List.set_cons_zero, List.set_cons_succ]
  refine AnyL.take (i := 1) (v := ?vy1) rfl (by kernel_rfl) (by kernel_rfl) (by kernel_rfl) (by kernel_rfl) (fun _ _ _ h => h) (by assumption) (Or.inl ⟨by rfl, ?y1⟩) ?ry1
  case y1 => (intro w hSw; (try dsimp only at hSw); go_simp; try with_reducible rfl)
  try simp only [Act.put, List.setIfInBounds_toArray, List.set_cons_zero, List.set_cons_succ]
  refine AnyL.take (i := 2) (v := ?vy2) rfl (by kernel_rfl) (by kernel_rfl) (by kernel_rfl) (by kernel_rfl) (fun _ _ _ h => h) (by assumption) (Or.inl ⟨by rfl, ?y2⟩) ?ry2
  case y2 => (intro w hSw; (try dsimp only at hSw); go_simp; try with_reducible rfl)
  try simp only [Act.put, List.setIfInBounds_toArray, List.set_cons_zero, List.set_cons_succ]
  refine AnyL.take (i := 3) (v := ?vy3) rfl (by kernel_rfl) (by kernel_rfl) (by kernel_rfl) (by kernel_rfl) (fun _ _ _ h => h) (by assumption) (Or.inl ⟨by rfl, ?y3⟩) ?ry3
  case y3 => (intro w hSw; (try dsimp only at hSw); go_simp; try with_reducible rfl)
  try simp only [Act.put, List.setIfInBounds_toArray, List.set_cons_zero, List.set_cons_succ]
  refine AnyL.take (i := 4) (v := ?vy4) rfl (by kernel_rfl) (by kernel_rfl) (by kernel_rfl) (by kernel_rfl) (fun _ _ _ h => h) (by assumption) (Or.inl ⟨by rfl, ?y4⟩) ?ry4
  case y4 => (intro w hSw; (try dsimp only at hSw); go_simp; try with_reducible rfl)
  try simp only [Act.put, List.setIfInBounds_toArray, List.set_cons_zero, List.set_cons_succ]
  refine AnyL.take (i := 5) (v := ?vy5) rfl (by kernel_rfl) (by kernel_rfl) (by kernel_rfl) (by kernel_rfl) (fun _ _ _ h => h) (by assumption) (Or.inl ⟨by rfl, ?y5⟩) ?ry5
  case y5 => (intro w hSw; (try dsimp only at hSw); go_simp; try with_reducible rfl)
  try simp only [Act.put, List.setIfInBounds_toArray, List.set_cons_zero, List.set_cons_succ]
  refine AnyL.take (i := 6) (v := ?vy6) rfl (by kernel_rfl) (by kernel_rfl) (by kernel_rfl) (by kernel_rfl) (fun _ _ _ h => h) (by assumption) (Or.inl ⟨by rfl, ?y6⟩) ?ry6
  case y6 => (intro w hSw; (try dsimp only at hSw); go_simp; try with_reducible rfl)
  try simp only [Act.put, List.setIfInBounds_toArray, List.set_cons_zero, List.set_cons_succ]
  refine AnyL.take (i := 8) (v := ?vy8) rfl (by kernel_rfl) (by kernel_rfl) (by kernel_rfl) (by kernel_rfl) (fun _ _ _ h => h) (by assumption) (Or.inl ⟨by rfl, ?y8⟩) ?ry8
  case y8 => (intro w hSw; (try dsimp only at hSw); go_simp; try with_reducible rfl)
  try simp only [Act.put, List.setIfInBounds_toArray, List.set_cons_zero, List.set_cons_succ]
  refine AnyL.two (i := 7) (j := 9) (by kernel_rfl) rfl rfl (fun K hK => ?_) (fun K hK => ?_)
  · go_simp
    refine (place_calls s _ h2 (by omega) hsz).mono ?_
    rintro e w5 ⟨rfl, hb5⟩
    have h5 := h2.below hb5
    refine hK.out _ _ (.inr h5.c0) ?_
    clear hHeld hK K
    have hHeld := h5.c0
    try simp only [Act.put, List.setIfInBounds_toArray, List.set_cons_zero, List.set_cons_succ]
    refine AnyL.one (i := 9) (by kernel_rfl) rfl (fun K hK => ?_)
    have hbv : Below (w5).heap.size (w5) ((w5).alloc (.cells #[.string s] 9)) := (Below.refl _ _).alloc (Nat.le_refl _) _
    have hV := heap_alloc_new (w5) (.cells #[.string s] 9)
    obtain ⟨wv, hwv⟩ : ∃ wv, (w5).alloc (.cells #[.string s] 9) = wv := ⟨_, rfl⟩
    rw [hwv] at hbv hV
    have h6 := h5.below hbv
    go_simp
    refine hK.out _ _ (.inr h6.c0) ?_
    clear hHeld hK K
    have hHeld := h6.c0
    try simp only [Act.put, List.setIfInBounds_toArray, List.set_cons_zero, List.set_cons_succ]
    have hVne : vN.ownBlock ≠ some w5.heap.size := fun e => by
      obtain ⟨cs, hc⟩ := own_type h5.row _ e
      have := (Array.getElem?_eq_some_iff.1 hc).1
      omega
    have hb06 := HB2.out.trans ((hb5.trans (hbv.mono hb5.size)).mono HB2.out.size)
    obtain ⟨V, hVV⟩ : ∃ V, w5.heap.size = V := ⟨_, rfl⟩
    rw [hVV] at hV hVne ⊢
    clear hVV hb5 hbv h5
    obtain ⟨Dt, hc6, hmo⟩ := h6.core
    have c6 := Insert_calls wv base vN l.length (plc l s) V (strs l) (.string s) hc6.row (strs_one l) (plc_le l s) (by omega) hV rfl hVne (Nat.le_trans hbase hb06.size)
    refine AnyL.one (i := 10) (by kernel_rfl) rfl (fun K hK => ?_)
    go_simp
    refine c6.mono ?_
    rintro e w7 ⟨v7, rfl, hr7, hg7, hs7⟩
    obtain ⟨hc8, hf8⟩ := hc6.names hr7 hg7 hs7
    have hh7 : w7.heap[D]? = wv.heap[D]? := hg7.block D hc6.lt (fun e => hc6.nD e.symm)
    have q7 : w7.cell? ⟨D, 0, none⟩ = some vN := (World.cell?_of_block (a := ⟨D, 0, none⟩) hh7).trans hc6.c0
    have f7 : w7.frozen? ⟨D, 0, none⟩ = false := Lib.frozen_of_heap (hh7.trans hc6.head) 0
    obtain ⟨A7, k7, rfl, _⟩ := own_form hr7
    refine hK.out _ _ (.inr q7) ?_
    clear hHeld hK K
    have hHeld := q7
    try simp only [Act.put, List.setIfInBounds_toArray, List.set_cons_zero, List.set_cons_succ]
    refine AnyL.one (i := 11) (by kernel_rfl) rfl (fun K hK => ?_)
    go_simp
    refine hK.out _ _ (.inr hHeld) ?_
    clear hK K
    try simp only [Act.put, List.setIfInBounds_toArray, List.set_cons_zero, List.set_cons_succ]
    refine AnyL.take (i := 12) (v := ?vra12) rfl (by kernel_rfl) (by kernel_rfl) (by kernel_rfl) (by kernel_rfl) (fun _ _ _ h => h) (by assumption) (Or.inl ⟨by rfl, ?ra12⟩) ?rra12
    case ra12 => (intro w hSw; (try dsimp only at hSw); go_simp; try with_reducible rfl)
    try simp only [Act.put, List.setIfInBounds_toArray, List.set_cons_zero, List.set_cons_succ]
    refine AnyL.one (i := 13) (by kernel_rfl) rfl (fun K hK => ?_)
    obtain ⟨w8, hw8⟩ : ∃ w8, w7.setCell ⟨D, 0, none⟩ (.slice A7 (l.length + 1) k7) = w8 := ⟨_, rfl⟩
    rw [hw8] at hc8 hf8
    go_simp
    refine hK.out _ _ (.inl rfl) ?_
    clear hHeld hK K
    refine AnyL.done (by kernel_rfl) ?_ _
    have hfr8 := (FrD.of_below hb06 D M vN).trans hf8 (SameV.refl _ _)
    have hsv8 : SameV w vN (.slice A7 (l.length + 1) k7) := (SameV.refl w vN).trans hb06.size hs7
    have hc8d := hc8.below (below_drew1 (Below.refl _ _))
    have q8 := hc8d.c1
    have HFR := Lib.hid hfr8
    have HSV := Lib.hid hsv8
    have HMO := Lib.hid hmo
    have HC8 := Lib.hid hc8d
    clear hw8 hwv q7 f7 hh7 hr7 hg7 hs7 hc8 hf8 hc6 hmo h6 hV hVne hb06 h2 hfr8 hsv8 hc8d c6 q0
    go_wp2_with fail
    refine AnyL.start (fun w' => w'.cell? ⟨D, 1, none⟩ = some (.map (some M))) 99 (by kernel_rfl) q8 (fun hHeld => ?_)
    refine AnyL.take (i := 0) (v := ?vsa0) rfl (by kernel_rfl) (by kernel_rfl) (by kernel_rfl) (by kernel_rfl) (fun _ _ _ h => h) (by assumption) (Or.inl ⟨by rfl, ?sa0⟩) ?rsa0
    case sa0 => (intro w hSw; (try dsimp only at hSw); go_simp; try with_reducible rfl)
    try simp only [Act.put, List.setIfInBounds_toArray, List.set_cons_zero, List.set_cons_succ]
    refine AnyL.take (i := 1) (v := ?vsa1) rfl (by kernel_rfl) (by kernel_rfl) (by kernel_rfl) (by kernel_rfl) (fun _ _ _ h => h) (by assumption) (Or.inl ⟨by rfl, ?sa1⟩) ?rsa1
    case sa1 => (intro w hSw; (try dsimp only at hSw); go_simp; try with_reducible rfl)
    try simp only [Act.put, List.setIfInBounds_toArray, List.set_cons_zero, List.set_cons_succ]
    refine AnyL.take (i := 2) (v := ?vsa2) rfl (by kernel_rfl) (by kernel_rfl) (by kernel_rfl) (by kernel_rfl) (fun _ _ _ h => h) (by assumption) (Or.inl ⟨by rfl, ?sa2⟩) ?rsa2
    case sa2 => (intro w hSw; (try dsimp only at hSw); go_simp; try with_reducible rfl)
    try simp only [Act.put, List.setIfInBounds_toArray, List.set_cons_zero, List.set_cons_succ]
    refine AnyL.take (i := 3) (v := ?vsa3) rfl (by kernel_rfl) (by kernel_rfl) (by kernel_rfl) (by kernel_rfl) (fun _ _ _ h => h) (by assumption) (Or.inl ⟨by rfl, ?sa3⟩) ?rsa3
    case sa3 => (intro w hSw; (try dsimp only at hSw); go_simp; try with_reducible rfl)
    try simp only [Act.put, List.setIfInBounds_toArray, List.set_cons_zero, List.set_cons_succ]
    refine AnyL.take (i := 4) (v := ?vsa4) rfl (by kernel_rfl) (by kernel_rfl) (by kernel_rfl) (by kernel_rfl) (fun _ _ _ h => h) (by assumption) (Or.inl ⟨by rfl, ?sa4⟩) ?rsa4
    case sa4 => (intro w hSw; (try dsimp only at hSw); go_simp; try with_reducible rfl)
    try simp only [Act.put, List.setIfInBounds_toArray, List.set_cons_zero, List.set_cons_succ]
    refine AnyL.take (i := 6) (v := ?vsa6) rfl (by kernel_rfl) (by kernel_rfl) (by kernel_rfl) (by kernel_rfl) (fun _ _ _ h => h) (by assumption) (Or.inl ⟨by rfl, ?sa6⟩) ?rsa6
    case sa6 => (intro w hSw; (try dsimp only at hSw); go_simp; try with_reducible rfl)
    try simp only [Act.put, List.setIfInBounds_toArray, List.set_cons_zero, List.set_cons_succ]
    refine AnyL.one (i := 5) (by kernel_rfl) rfl (fun K hK => ?_)
    go_simp
    refine (C3.out _).mono ?_
    rintro e w9 ⟨rfl, hb9⟩
    have hc9 := HC8.out.below hb9
    refine hK.out _ _ (.inr hc9.c1) ?_
    clear hHeld hK K
    have hHeld := hc9.c1
    try simp only [Act.put, List.setIfInBounds_toArray, List.set_cons_zero, List.set_cons_succ]
    obtain ⟨w10, hrun, hown, hturn⟩ := hc9.map.store (string_keyed Tryd.underlying9) Tryd.underlying46 (by unfold maxLen; omega) (keyF s (by rw [fold_length]; unfold bts maxLen; rw [Array.length_toList, ByteArray.size_data]; omega)) (plainElem_int Tryd.underlying3 HX.out.2)
    have hrun : (Instr.mapUpdate 46 (.map (some M)) (.string ⟨(fold s.data.toList).toArray⟩) (.int .i64 n)).run Tryd.prog w9 = .ok () w10 := hrun
    obtain ⟨hc10, hf10⟩ := hc9.turned hown hturn.grown
    refine AnyL.one (i := 7) (by kernel_rfl) rfl (fun K hK => ?_)
    go_simp
    refine hK.out _ _ (.inr hc10.c1) ?_
    clear hHeld hK K
    refine AnyL.done (by kernel_rfl) ?_ _
    have hfr10 := HFR.out.trans ((FrD.of_below ((below_drew1 (Below.refl w8.heap.size w8)).trans hb9) D M _).trans hf10 (SameV.refl _ _)) HSV.out
    rw [← plc_put l s n, ← put_len l s n] at hc10
    have hfin : StepD w base D M vN (put l s n) (q + 1) w10 := ⟨_, hc10.dir (HMO.out.put (hc9.map.isMap) HF.out n) (put_rise HH.out.rise HF.out n) (fun x hx => by
      rcases put_mem hx with rfl | hx
      · exact HX.out
      · exact HH.out.text x hx), hfr10, by rw [put_len]; exact HSV.out⟩
    have HFIN := Lib.hid hfin
    clear hrun hown hturn hc10 hf10 hc9 hb9 hfr10 hfin q8
    go_wp2
    go_ret
    exact ⟨rfl, HFIN.out⟩
  · have hbv : Below (w1.drew).heap.size (w1.drew) ((w1.drew).alloc (.cells #[.string s] 9)) := (Below.refl _ _).alloc (Nat.le_refl _) _
    have hV5 := heap_alloc_new (w1.drew) (.cells #[.string s] 9)
    obtain ⟨w5, hwv⟩ : ∃ wv, (w1.drew).alloc (.cells #[.string s] 9) = wv := ⟨_, rfl⟩
    rw [hwv] at hbv hV5
    have h5 := h2.below hbv
    go_simp
    refine hK.out _ _ (.inr h5.c0) ?_
    clear hHeld hK K
    have hHeld := h5.c0
    try simp only [Act.put, List.setIfInBounds_toArray, List.set_cons_zero, List.set_cons_succ]
    refine AnyL.one (i := 7) (by kernel_rfl) rfl (fun K hK => ?_)
    go_simp
    refine (place_calls s _ h5 (by omega) hsz).mono ?_
    rintro e wv ⟨rfl, hb5⟩
    have h6 := h5.below hb5
    refine hK.out _ _ (.inr h6.c0) ?_
    clear hHeld hK K
    have hHeld := h6.c0
    try simp only [Act.put, List.setIfInBounds_toArray, List.set_cons_zero, List.set_cons_succ]
    have hVne : vN.ownBlock ≠ some w1.drew.heap.size := fun e => by
      obtain ⟨cs, hc⟩ := own_type h2.row _ e
      have := (Array.getElem?_eq_some_iff.1 hc).1
      omega
    have hV := kept_below hb5 _ _ hV5
    have hb06 := HB2.out.trans ((hbv.trans (hb5.mono hbv.size)).mono HB2.out.size)
    obtain ⟨V, hVV⟩ : ∃ V, w1.drew.heap.size = V := ⟨_, rfl⟩
    have hVV2 : w1.heap.size = V := hVV
    rw [hVV] at hV hVne
    try rw [hVV]
    try rw [hVV2]
    clear hVV hVV2 hb5 hbv h5 hV5
    obtain ⟨Dt, hc6, hmo⟩ := h6.core
    have c6 := Insert_calls wv base vN l.length (plc l s) V (strs l) (.string s) hc6.row (strs_one l) (plc_le l s) (by omega) hV rfl hVne (Nat.le_trans hbase hb06.size)
    refine AnyL.one (i := 10) (by kernel_rfl) rfl (fun K hK => ?_)
    go_simp
    refine c6.mono ?_
    rintro e w7 ⟨v7, rfl, hr7, hg7, hs7⟩
    obtain ⟨hc8, hf8⟩ := hc6.names hr7 hg7 hs7
    have hh7 : w7.heap[D]? = wv.heap[D]? := hg7.block D hc6.lt (fun e => hc6.nD e.symm)
    have q7 : w7.cell? ⟨D, 0, none⟩ = some vN := (World.cell?_of_block (a := ⟨D, 0, none⟩) hh7).trans hc6.c0
    have f7 : w7.frozen? ⟨D, 0, none⟩ = false := Lib.frozen_of_heap (hh7.trans hc6.head) 0
    obtain ⟨A7, k7, rfl, _⟩ := own_form hr7
    refine hK.out _ _ (.inr q7) ?_
    clear hHeld hK K
    have hHeld := q7
    try simp only [Act.put, List.setIfInBounds_toArray, List.set_cons_zero, List.set_cons_succ]
    refine AnyL.one (i := 11) (by kernel_rfl) rfl (fun K hK => ?_)
    go_simp
    refine hK.out _ _ (.inr hHeld) ?_
    clear hK K
    try simp only [Act.put, List.setIfInBounds_toArray, List.set_cons_zero, List.set_cons_succ]
    refine AnyL.take (i := 12) (v := ?vrb12) rfl (by kernel_rfl) (by kernel_rfl) (by kernel_rfl) (by kernel_rfl) (fun _ _ _ h => h) (by assumption) (Or.inl ⟨by rfl, ?rb12⟩) ?rrb12
    case rb12 => (intro w hSw; (try dsimp only at hSw); go_simp; try with_reducible rfl)
    try simp only [Act.put, List.setIfInBounds_toArray, List.set_cons_zero, List.set_cons_succ]
    refine AnyL.one (i := 13) (by kernel_rfl) rfl (fun K hK => ?_)
    obtain ⟨w8, hw8⟩ : ∃ w8, w7.setCell ⟨D, 0, none⟩ (.slice A7 (l.length + 1) k7) = w8 := ⟨_, rfl⟩
    rw [hw8] at hc8 hf8
    go_simp
    refine hK.out _ _ (.inl rfl) ?_
    clear hHeld hK K
    refine AnyL.done (by kernel_rfl) ?_ _
    have hfr8 := (FrD.of_below hb06 D M vN).trans hf8 (SameV.refl _ _)
    have hsv8 : SameV w vN (.slice A7 (l.length + 1) k7) := (SameV.refl w vN).trans hb06.size hs7
    have hc8d := hc8.below (below_drew1 (Below.refl _ _))
    have q8 := hc8d.c1
    have HFR := Lib.hid hfr8
    have HSV := Lib.hid hsv8
    have HMO := Lib.hid hmo
    have HC8 := Lib.hid hc8d
    clear hw8 hwv q7 f7 hh7 hr7 hg7 hs7 hc8 hf8 hc6 hmo h6 hV hVne hb06 h2 hfr8 hsv8 hc8d c6 q0
    go_wp2_with fail
    refine AnyL.start (fun w' => w'.cell? ⟨D, 1, none⟩ = some (.map (some M))) 99 (by kernel_rfl) q8 (fun hHeld => ?_)
    refine AnyL.take (i := 0) (v := ?vsb0) rfl (by kernel_rfl) (by kernel_rfl) (by kernel_rfl) (by kernel_rfl) (fun _ _ _ h => h) (by assumption) (Or.inl ⟨by rfl, ?sb0⟩) ?rsb0
    case sb0 => (intro w hSw; (try dsimp only at hSw); go_simp; try with_reducible rfl)
    try simp only [Act.put, List.setIfInBounds_toArray, List.set_cons_zero, List.set_cons_succ]
    refine AnyL.take (i := 1) (v := ?vsb1) rfl (by kernel_rfl) (by kernel_rfl) (by kernel_rfl) (by kernel_rfl) (fun _ _ _ h => h) (by assumption) (Or.inl ⟨by rfl, ?sb1⟩) ?rsb1
    case sb1 => (intro w hSw; (try dsimp only at hSw); go_simp; try with_reducible rfl)
    try simp only [Act.put, List.setIfInBounds_toArray, List.set_cons_zero, List.set_cons_succ]
    refine AnyL.take (i := 2) (v := ?vsb2) rfl (by kernel_rfl) (by kernel_rfl) (by kernel_rfl) (by kernel_rfl) (fun _ _ _ h => h) (by assumption) (Or.inl ⟨by rfl, ?sb2⟩) ?rsb2
    case sb2 => (intro w hSw; (try dsimp only at hSw); go_simp; try with_reducible rfl)
    try simp only [Act.put, List.setIfInBounds_toArray, List.set_cons_zero, List.set_cons_succ]
    refine AnyL.take (i := 3) (v := ?vsb3) rfl (by kernel_rfl) (by kernel_rfl) (by kernel_rfl) (by kernel_rfl) (fun _ _ _ h => h) (by assumption) (Or.inl ⟨by rfl, ?sb3⟩) ?rsb3
    case sb3 => (intro w hSw; (try dsimp only at hSw); go_simp; try with_reducible rfl)
    try simp only [Act.put, List.setIfInBounds_toArray, List.set_cons_zero, List.set_cons_succ]
    refine AnyL.take (i := 4) (v := ?vsb4) rfl (by kernel_rfl) (by kernel_rfl) (by kernel_rfl) (by kernel_rfl) (fun _ _ _ h => h) (by assumption) (Or.inl ⟨by rfl, ?sb4⟩) ?rsb4
    case sb4 => (intro w hSw; (try dsimp only at hSw); go_simp; try with_reducible rfl)
    try simp only [Act.put, List.setIfInBounds_toArray, List.set_cons_zero, List.set_cons_succ]
    refine AnyL.take (i := 6) (v := ?vsb6) rfl (by kernel_rfl) (by kernel_rfl) (by kernel_rfl) (by kernel_rfl) (fun _ _ _ h => h) (by assumption) (Or.inl ⟨by rfl, ?sb6⟩) ?rsb6
    case sb6 => (intro w hSw; (try dsimp only at hSw); go_simp; try with_reducible rfl)
    try simp only [Act.put, List.setIfInBounds_toArray, List.set_cons_zero, List.set_cons_succ]
    refine AnyL.one (i := 5) (by kernel_rfl) rfl (fun K hK => ?_)
    go_simp
    refine (C3.out _).mono ?_
    rintro e w9 ⟨rfl, hb9⟩
    have hc9 := HC8.out.below hb9
    refine hK.out _ _ (.inr hc9.c1) ?_
    clear hHeld hK K
    have hHeld := hc9.c1
    try simp only [Act.put, List.setIfInBounds_toArray, List.set_cons_zero, List.set_cons_succ]
    obtain ⟨w10, hrun, hown, hturn⟩ := hc9.map.store (string_keyed Tryd.underlying9) Tryd.underlying46 (by unfold maxLen; omega) (keyF s (by rw [fold_length]; unfold bts maxLen; rw [Array.length_toList, ByteArray.size_data]; omega)) (plainElem_int Tryd.underlying3 HX.out.2)
    have hrun : (Instr.mapUpdate 46 (.map (some M)) (.string ⟨(fold s.data.toList).toArray⟩) (.int .i64 n)).run Tryd.prog w9 = .ok () w10 := hrun
    obtain ⟨hc10, hf10⟩ := hc9.turned hown hturn.grown
    refine AnyL.one (i := 7) (by kernel_rfl) rfl (fun K hK => ?_)
    go_simp
    refine hK.out _ _ (.inr hc10.c1) ?_
    clear hHeld hK K
    refine AnyL.done (by kernel_rfl) ?_ _
    have hfr10 := HFR.out.trans ((FrD.of_below ((below_drew1 (Below.refl w8.heap.size w8)).trans hb9) D M _).trans hf10 (SameV.refl _ _)) HSV.out
    rw [← plc_put l s n, ← put_len l s n] at hc10
    have hfin : StepD w base D M vN (put l s n) (q + 1) w10 := ⟨_, hc10.dir (HMO.out.put (hc9.map.isMap) HF.out n) (put_rise HH.out.rise HF.out n) (fun x hx => by
      rcases put_mem hx with rfl | hx
      · exact HX.out
      · exact HH.out.text x hx), hfr10, by rw [put_len]; exact HSV.out⟩
    have HFIN := Lib.hid hfin
    clear hrun hown hturn hc10 hf10 hc9 hb9 hfr10 hfin q8
    go_wp2
    go_ret
    exact ⟨rfl, HFIN.out⟩
end
end Go.Proofs.YtkdjkndnilmjmaaDoor.U
/- dir: Remove, New, Len. -/
set_option linter.unusedVariables false
set_option linter.unusedSimpArgs false
namespace Go.Proofs.YtkdjkndnilmjmaaDoor.U
open Go.RowKit Go.Proofs Go.Lib Go.Proofs.YtkdjkndnilmjmaaDoorW.PrintWords Go.Maps

section
variable {w : World} {base D M q : Nat} {l : List Ent} {vN : Value}
set_option maxHeartbeats 4000000 in
set_option maxRecDepth 1000000 in
theorem Remove_of5 (v : Value) (s : ByteArray) (m : Int) (o : ByteArray) (cF : Calls Tryd.prog 18 #[v, .string s] w fun e w' => e = .returned (.tuple #[.int .i64 m, .string o, .int .i64 5]) ∧ Below w.heap.size w w') :
    Calls Tryd.prog 21 #[v, .string s] w fun e w' => e = .returned (.int .i64 5) ∧ Below w.heap.size w w' := by
  have C1 := Lib.hid cF
  clear cF
  go_enter Tryd.func21, Tryd.ntmps21
  go_wp2_with fail
  refine (C1.out).mono ?_
  rintro e w1 ⟨rfl, hb⟩
  go_wp2
  go_ret
  exact ⟨rfl, hb⟩
set_option maxHeartbeats 4000000 in
set_option maxRecDepth 1000000 in
theorem Remove_of7 (v : Value) (s : ByteArray) (m : Int) (o : ByteArray) (cF : Calls Tryd.prog 18 #[v, .string s] w fun e w' => e = .returned (.tuple #[.int .i64 m, .string o, .int .i64 7]) ∧ Below w.heap.size w w') :
    Calls Tryd.prog 21 #[v, .string s] w fun e w' => e = .returned (.int .i64 7) ∧ Below w.heap.size w w' := by
  have C1 := Lib.hid cF
  clear cF
  go_enter Tryd.func21, Tryd.ntmps21
  go_wp2_with fail
  refine (C1.out).mono ?_
  rintro e w1 ⟨rfl, hb⟩
  go_wp2
  go_ret
  exact ⟨rfl, hb⟩
theorem cut_mem {l : List Ent} {s : ByteArray} {x : Ent} (h : x ∈ cut l s) : x ∈ l := by
  unfold cut at h
  rcases List.mem_append.1 h with h | h
  · exact List.mem_of_mem_take h
  · exact List.mem_of_mem_drop h
set_option maxHeartbeats 8000000 in
set_option maxRecDepth 1000000 in
theorem Remove_calls (s : ByteArray) (h : DirAt w base D M l vN q) (hx : Txt s) (hl : l.length ≤ 1000) (hT : Tabs w) {x : Ent} (hf : fnd l s = some x) :
    Calls Tryd.prog 21 #[.pointer (some ⟨D, 0, none⟩), .string s] w fun e w' => e = .returned (.int .i64 0) ∧ StepD w base D M vN (cut l s) q w' := by
  have hsz := hx.sz
  have c1 := Find_calls s h hx (by omega) hT
  have e1 : errFnd l s = 0 := by unfold errFnd; rw [hf]; rfl
  rw [e1] at c1
  have C1 := Lib.hid c1
  have C3 := Lib.hid (fun W => Fold_calls s W (by omega))
  have hat := fnd_at h.rise hf
  have hplt := (List.getElem?_eq_some_iff.1 hat).1
  have HH := Lib.hid h
  have HF := Lib.hid hf
  clear c1 e1 hT h hf hx hat
  go_enter Tryd.func21, Tryd.ntmps21
  go_wp2_with fail
  refine (C1.out).mono ?_
  rintro e w1 ⟨rfl, hb1⟩
  have h2 := HH.out.below hb1
  have C4 := Lib.hid (place_calls s _ h2 (by omega) hsz)
  have HB1 := Lib.hid hb1
  have H2 := Lib.hid h2
  clear hb1 h2 C1
  go_wp2_with fail
  refine (C4.out).mono ?_
  rintro e w2 ⟨rfl, hb2⟩
  have h3 := H2.out.below hb2
  have hb02 := HB1.out.trans (hb2.mono HB1.out.size)
  have q0 := h3.c0
  obtain ⟨Dt, hc3, hmo⟩ := h3.core
  obtain ⟨A3, k3, rfl, _⟩ := own_form hc3.row
  have c5 := Delete_calls w2 base _ (plc l s) l hc3.row hplt
  rw [Int.natCast_succ] at c5
  have C5 := Lib.hid c5
  have HC3 := Lib.hid hc3
  have HMO := Lib.hid hmo
  have HB02 := Lib.hid hb02
  obtain ⟨k, hk⟩ : ∃ k, plc l s = k := ⟨_, rfl⟩
  rw [hk] at C5 hplt ⊢
  have HK := Lib.hid hk
  clear hb2 hb02 h3 hc3 hmo c5 H2 HB1 C4 hk
  go_wp2_with fail
  refine (C5.out).mono ?_
  rintro e w3 ⟨v7, rfl, hr7, hg7, hs7⟩
  have hsv : SameV w2 (.slice A3 l.length k3) v7 := fun j e => .inl (by rw [← hs7]; exact e)
  obtain ⟨hc8, hf8⟩ := HC3.out.names hr7 hg7 hsv
  have hh7 : w3.heap[D]? = w2.heap[D]? := hg7.block D HC3.out.lt (fun e => HC3.out.nD e.symm)
  have q7 : w3.cell? ⟨D, 0, none⟩ = some (.slice A3 l.length k3) := (World.cell?_of_block (a := ⟨D, 0, none⟩) hh7).trans HC3.out.c0
  have f7 : w3.frozen? ⟨D, 0, none⟩ = false := Lib.frozen_of_heap (hh7.trans HC3.out.head) 0
  obtain ⟨A7, k7, rfl, _⟩ := own_form hr7
  obtain ⟨n7, hn7⟩ : ∃ n7, (l.take k ++ l.drop (k + 1)).length = n7 := ⟨_, rfl⟩
  rw [hn7] at hc8 hf8 hsv ⊢
  obtain ⟨w8, hw8⟩ : ∃ w8, w3.setCell ⟨D, 0, none⟩ (.slice A7 n7 k7) = w8 := ⟨_, rfl⟩
  rw [hw8] at hc8 hf8
  have hfr8 := (FrD.of_below HB02.out D M (.slice A3 l.length k3)).trans hf8 (SameV.refl _ _)
  have hsv8 : SameV w (.slice A3 l.length k3) (.slice A7 n7 k7) := (SameV.refl w _).trans HB02.out.size hsv
  have hc8d := hc8.below (below_drew1 (Below.refl _ _))
  have q8 := hc8d.c1
  have HFR := Lib.hid hfr8
  have HSV := Lib.hid hsv8
  have HC8 := Lib.hid hc8d
  have HN7 := Lib.hid hn7
  clear hr7 hg7 hs7 hsv hc8 hf8 hh7 hn7 hfr8 hsv8 hc8d C5
  go_wp2_with fail
  clear hw8 q7 f7 q0
  refine AnyL.start (fun w' => w'.cell? ⟨D, 1, none⟩ = some (.map (some M))) 99 (by kernel_rfl) q8 (fun hHeld => ?_)
  refine AnyL.take (i := 0) (v := ?vs0) rfl (by kernel_rfl) (by kernel_rfl) (by kernel_rfl) (by kernel_rfl) (fun _ _ _ h => h) (by assumption) (Or.inl ⟨by rfl, ?s0⟩) ?rs0
  case s0 => (intro w hSw; (try dsimp only at hSw); go_simp; try with_reducible rfl)
  try simp only [Act.put, List.setIfInBounds_toArray, List.set_cons_zero, List.set_cons_succ]
  refine AnyL.take (i := 1) (v := ?vs1) rfl (by kernel_rfl) (by kernel_rfl) (by kernel_rfl) (by kernel_rfl) (fun _ _ _ h => h) (by assumption) (Or.inl ⟨by rfl, ?s1⟩) ?rs1
  case s1 => (intro w hSw; (try dsimp only at hSw); go_simp; try with_reducible rfl)
  try simp only [Act.put, List.setIfInBounds_toArray, List.set_cons_zero, List.set_cons_succ]
  refine AnyL.take (i := 2) (v := ?vs2) rfl (by kernel_rfl) (by kernel_rfl) (by kernel_rfl) (by kernel_rfl) (fun _ _ _ h => h) (by assumption) (Or.inl ⟨by rfl, ?s2⟩) ?rs2
  case s2 => (intro w hSw; (try dsimp only at hSw); go_simp; try with_reducible rfl)
  try simp only [Act.put, List.setIfInBounds_toArray, List.set_cons_zero, List.set_cons_succ]
  refine AnyL.take (i := 3) (v := ?vs3) rfl (by kernel_rfl) (by kernel_rfl) (by kernel_rfl) (by kernel_rfl) (fun _ _ _ h => h) (by assumption) (Or.inl ⟨by rfl, ?s3⟩) ?rs3
  case s3 => (intro w hSw; (try dsimp only at hSw); go_simp; try with_reducible rfl)
  try simp only [Act.put, List.setIfInBounds_toArray, List.set_cons_zero, List.set_cons_succ]
  refine AnyL.take (i := 4) (v := ?vs4) rfl (by kernel_rfl) (by kernel_rfl) (by kernel_rfl) (by kernel_rfl) (fun _ _ _ h => h) (by assumption) (Or.inl ⟨by rfl, ?s4⟩) ?rs4
  case s4 => (intro w hSw; (try dsimp only at hSw); go_simp; try with_reducible rfl)
  try simp only [Act.put, List.setIfInBounds_toArray, List.set_cons_zero, List.set_cons_succ]
  refine AnyL.one (i := 5) (by kernel_rfl) rfl (fun K hK => ?_)
  go_simp
  refine (C3.out _).mono ?_
  rintro e w9 ⟨rfl, hb9⟩
  have hc9 := HC8.out.below hb9
  refine hK.out _ _ (.inr hc9.c1) ?_
  clear hHeld hK K
  have hHeld := hc9.c1
  try simp only [Act.put, List.setIfInBounds_toArray, List.set_cons_zero, List.set_cons_succ]
  obtain ⟨w10, hrun, hown, hturn⟩ := hc9.map.drop (string_keyed Tryd.underlying9) Tryd.underlying46 (keyF s (by rw [fold_length]; unfold bts maxLen; rw [Array.length_toList, ByteArray.size_data]; omega)) 0
  have hrun : (Builtin.delete_ #[46, 9] 0 #[.map (some M), .string ⟨(fold s.data.toList).toArray⟩]).run Tryd.prog w9 = .ok (.tuple #[]) w10 := hrun
  obtain ⟨hc10, hf10⟩ := hc9.turned hown hturn.grown
  refine AnyL.one (i := 6) (by kernel_rfl) rfl (fun K hK => ?_)
  go_simp
  refine hK.out _ _ (.inr hc10.c1) ?_
  clear hHeld hK K
  refine AnyL.done (by kernel_rfl) ?_ _
  have hfr10 := HFR.out.trans ((FrD.of_below ((below_drew1 (Below.refl w8.heap.size w8)).trans hb9) D M _).trans hf10 (SameV.refl _ _)) HSV.out
  have ecut : l.take k ++ l.drop (k + 1) = cut l s := by unfold cut; rw [HK.out]
  have hn8 := HN7.out
  rw [ecut] at hc10 hn8
  have hfin : StepD w base D M (.slice A3 l.length k3) (cut l s) q w10 := ⟨.slice A7 n7 k7, Core.dir (by rw [hn8]; exact hc10) (HMO.out.cut (hc9.map.isMap) HH.out.rise HF.out) (cut_rise HH.out.rise s) (fun y hy => HH.out.text y (cut_mem hy)), hfr10, HSV.out⟩
  have HFIN := Lib.hid hfin
  clear hrun hown hturn hc10 hf10 hc9 hb9 hfr10 hfin q8 ecut hn8
  go_wp2
  go_ret
  exact ⟨rfl, HFIN.out⟩
set_option maxHeartbeats 2000000 in
set_option maxRecDepth 100000 in
theorem Len_calls (h : DirAt w base D M l vN q) :
    Calls Tryd.prog 15 #[.pointer (some ⟨D, 0, none⟩)] w fun e w' => e = .returned (.int .i64 (l.length : Int)) ∧ w' = w := by
  have C1 := Lib.hid (off_on D M w h.c1)
  have q0 := h.c0
  obtain ⟨A, c, rfl, _⟩ := own_form h.row
  generalize l.length = n at *
  clear h
  go_enter Tryd.func15, Tryd.ntmps15
  go_wp2_with fail
  refine (C1.out).mono ?_
  rintro e w1 ⟨rfl, rfl⟩
  go_wp2
  go_ret
  exact ⟨rfl, rfl⟩
end
set_option maxHeartbeats 2000000 in
set_option maxRecDepth 100000 in
theorem New_calls (w : World) :
    Calls Tryd.prog 23 #[] w fun e w' => e = .returned (.pointer (some ⟨w.heap.size + 1, 0, none⟩)) ∧ DirAt w' w.heap.size (w.heap.size + 1) w.heap.size [] (.slice none 0 0) 0 ∧ Below w.heap.size w w' := by
  have hmm := @run_makeMap Tryd.prog
  go_enter Tryd.func23, Tryd.ntmps23
  go_wp2
  go_ret
  have hm := World.ownsMap_made (H := Unit) w Tryd.prog 9 (plainElem Tryd.prog 3)
  have hc := heap_alloc_new (w.alloc (.map #[] 0)) (.cells #[.slice none 0 0, .map (some w.heap.size)] 48)
  have e1 : (w.alloc (.map #[] 0)).heap.size = w.heap.size + 1 := by simp
  rw [e1] at hc
  exact ⟨rfl, ⟨hc, World.ownsRow_nil _ _ _ _, ⟨_, hm.alloc _, MapOf.nil⟩, List.Pairwise.nil, fun x hx => (by cases hx), Nat.le_succ _, Nat.le_refl _⟩, by go_grown⟩
end Go.Proofs.YtkdjkndnilmjmaaDoor.U
/- dir: Rename. -/
set_option linter.unusedVariables false
set_option linter.unusedSimpArgs false
namespace Go.Proofs.YtkdjkndnilmjmaaDoor.U
open Go.RowKit Go.Proofs Go.Lib Go.Proofs.YtkdjkndnilmjmaaDoorW.PrintWords Go.Maps

theorem fnd_sub {l l' : List Ent} (h : ∀ x ∈ l', x ∈ l) {t : ByteArray} (hf : fnd l t = none) : fnd l' t = none := by
  unfold fnd
  rw [List.find?_eq_none]
  intro x hx
  have := fnd_none hf x (h x hx)
  simp [this]
/-- What is alike stands once. -/
theorem fnd_cut {l : List Ent} (hr : Rise l) {s t : ByteArray} {x : Ent} (hf : fnd l s = some x) (ha : al x.name t = true) : fnd (cut l s) t = none := by
  have hx := fnd_at hr hf
  have hs := (fnd_some hf).2
  unfold fnd
  rw [List.find?_eq_none]
  intro y hy hyt
  have hyt : al y.name t = true := hyt
  have hyx : al y.name x.name = true := al_trans hyt (al_symm ha)
  have hys : al y.name s = true := al_trans hyx hs
  unfold cut at hy
  rcases List.mem_append.1 hy with hy | hy
  · obtain ⟨j, hj⟩ := List.getElem?_of_mem hy
    rw [List.getElem?_take] at hj
    split at hj
    · rename_i hjp
      have h2 := (plc_iff l hr s j y hj).2 hjp
      rcases ah_one y.name s with ⟨_, _, h3⟩ | ⟨h3, _, _⟩ | ⟨h3, _, _⟩
      · rw [hys] at h3; cases h3
      · rw [h2] at h3; cases h3
      · rw [h2] at h3; cases h3
    · cases hj
  · obtain ⟨j, hj⟩ := List.getElem?_of_mem hy
    rw [List.getElem?_drop] at hj
    obtain ⟨p1, p2⟩ := List.getElem?_eq_some_iff.1 hx
    obtain ⟨p3, p4⟩ := List.getElem?_eq_some_iff.1 hj
    have h2 := List.pairwise_iff_getElem.1 hr _ _ p1 p3 (by omega)
    rw [p2, p4] at h2
    rcases ah_one y.name x.name with ⟨_, _, h3⟩ | ⟨_, _, h3⟩ | ⟨_, h3, _⟩
    · rw [hyx] at h3; cases h3
    · rw [hyx] at h3; cases h3
    · rw [h2] at h3; cases h3
theorem cut_len (l : List Ent) (s : ByteArray) : (cut l s).length ≤ l.length := by
  unfold cut
  rw [List.length_append, List.length_take, List.length_drop]
  omega
section
variable {w : World} {base D M q : Nat} {l : List Ent} {vN : Value}
set_option maxHeartbeats 4000000 in
set_option maxRecDepth 1000000 in
theorem Rename_e1 (t : ByteArray) (h : DirAt w base D M l vN q) (hT : Tabs w) :
    Calls Tryd.prog 22 #[.pointer (some ⟨D, 0, none⟩), .string ⟨#[]⟩, .string t] w fun e w' => e = .returned (.int .i64 5) ∧ Below w.heap.size w w' := by
  have C1 := Lib.hid (off_on D M w h.c1)
  clear h
  go_enter Tryd.func22, Tryd.ntmps22
  go_wp2_with fail
  refine (C1.out).mono ?_
  rintro e w1 ⟨rfl, rfl⟩
  go_wp2
  go_ret
  exact ⟨rfl, Below.refl _ _⟩
set_option maxHeartbeats 4000000 in
set_option maxRecDepth 1000000 in
theorem Rename_e2 (s : ByteArray) (hs : s ≠ ⟨#[]⟩) (h : DirAt w base D M l vN q) (hT : Tabs w) :
    Calls Tryd.prog 22 #[.pointer (some ⟨D, 0, none⟩), .string s, .string ⟨#[]⟩] w fun e w' => e = .returned (.int .i64 5) ∧ Below w.heap.size w w' := by
  have C1 := Lib.hid (off_on D M w h.c1)
  have d1 := list_ne hs
  have d2 := list_ne2 hs
  clear h
  go_enter Tryd.func22, Tryd.ntmps22
  go_wp2_with fail
  refine (C1.out).mono ?_
  rintro e w1 ⟨rfl, rfl⟩
  go_wp2
  go_ret
  exact ⟨rfl, Below.refl _ _⟩
set_option maxHeartbeats 4000000 in
set_option maxRecDepth 1000000 in
theorem Rename_f1 (s t : ByteArray) (hs : s ≠ ⟨#[]⟩) (ht : t ≠ ⟨#[]⟩) (hz : s.size ≤ 1048576) (hv : valid (bts s) = false) (h : DirAt w base D M l vN q) (hT : Tabs w) :
    Calls Tryd.prog 22 #[.pointer (some ⟨D, 0, none⟩), .string s, .string t] w fun e w' => e = .returned (.int .i64 5) ∧ Below w.heap.size w w' := by
  have C1 := Lib.hid (off_on D M w h.c1)
  have d1 := list_ne hs
  have d2 := list_ne2 hs
  have d3 := list_ne ht
  have d4 := list_ne2 ht
  have c2 := isText_calls s w hz hT
  rw [hv] at c2
  have C2 := Lib.hid c2
  clear c2 hv
  clear h
  go_enter Tryd.func22, Tryd.ntmps22
  go_wp2_with fail
  refine (C1.out).mono ?_
  rintro e w1 ⟨rfl, rfl⟩
  go_wp2_with fail
  refine (C2.out).mono ?_
  rintro e w2 ⟨rfl, hb⟩
  go_wp2
  go_ret
  exact ⟨rfl, hb⟩
set_option maxHeartbeats 4000000 in
set_option maxRecDepth 1000000 in
theorem Rename_f2 (s t : ByteArray) (hs : s ≠ ⟨#[]⟩) (ht : t ≠ ⟨#[]⟩) (hz : s.size ≤ 1048576) (hy : t.size ≤ 1048576) (hv : valid (bts s) = true) (hu : valid (bts t) = false) (h : DirAt w base D M l vN q) (hT : Tabs w) :
    Calls Tryd.prog 22 #[.pointer (some ⟨D, 0, none⟩), .string s, .string t] w fun e w' => e = .returned (.int .i64 5) ∧ Below w.heap.size w w' := by
  have C1 := Lib.hid (off_on D M w h.c1)
  have d1 := list_ne hs
  have d2 := list_ne2 hs
  have d3 := list_ne ht
  have d4 := list_ne2 ht
  have c2 := isText_calls s w hz hT
  rw [hv] at c2
  have C2 := Lib.hid c2
  have HT := Lib.hid hT
  have c3 := fun W (hW : Below w.heap.size w W) => isText_calls t W hy (HT.out.below hW)
  rw [hu] at c3
  have C3 := Lib.hid c3
  clear c2 c3 hv hu hT
  clear h
  go_enter Tryd.func22, Tryd.ntmps22
  go_wp2_with fail
  refine (C1.out).mono ?_
  rintro e w1 ⟨rfl, rfl⟩
  go_wp2_with fail
  refine (C2.out).mono ?_
  rintro e w2 ⟨rfl, hb⟩
  go_wp2_with fail
  refine (C3.out _ hb).mono ?_
  rintro e w3 ⟨rfl, hb3⟩
  have HB := Lib.hid (hb.trans (hb3.mono hb.size))
  clear hb hb3
  go_wp2
  go_ret
  exact ⟨rfl, HB.out⟩
set_option maxHeartbeats 8000000 in
set_option maxRecDepth 1000000 in
theorem Rename_none (s t : ByteArray) (hf : fnd l s = none) (h : DirAt w base D M l vN q) (hs : Txt s) (ht : Txt t) (hl : l.length ≤ 1000) (hT : Tabs w) :
    Calls Tryd.prog 22 #[.pointer (some ⟨D, 0, none⟩), .string s, .string t] w fun e w' => e = .returned (.int .i64 7) ∧ Below w.heap.size w w' := by
  have C1 := Lib.hid (off_on D M w h.c1)
  have hsz := hs.sz
  have htz := ht.sz
  have d1 := list_ne hs.ne
  have d2 := list_ne2 hs.ne
  have d3 := list_ne ht.ne
  have d4 := list_ne2 ht.ne
  have HT := Lib.hid hT
  have HS := Lib.hid (And.intro hs ht)
  have c2 := isText_calls s w hsz hT
  rw [hs.ok] at c2
  have C2 := Lib.hid c2
  have c3 := fun W (hW : Below w.heap.size w W) => isText_calls t W htz (HT.out.below hW)
  rw [ht.ok] at c3
  have C3 := Lib.hid c3
  have HH := Lib.hid h
  have HER : Hid (errFnd l s = 7) := Lib.hid (by unfold errFnd; rw [hf]; rfl)
  clear hf
  clear c2 c3 hT h hs ht
  go_enter Tryd.func22, Tryd.ntmps22
  go_wp2_with fail
  refine (C1.out).mono ?_
  rintro e w1 ⟨rfl, rfl⟩
  go_wp2_with fail
  refine (C2.out).mono ?_
  rintro e w2 ⟨rfl, hb⟩
  go_wp2_with fail
  refine (C3.out _ hb).mono ?_
  rintro e w3 ⟨rfl, hb3⟩
  have hb03 := hb.trans (hb3.mono hb.size)
  have HB3 := Lib.hid hb03
  have h3 := HH.out.below hb03
  have c4 := Find_calls s h3 HS.out.1 (by omega) (HT.out.below hb03)
  rw [HER.out] at c4
  have C4 := Lib.hid c4
  clear hb hb3 hb03 h3 c4 C1 C2 C3
  go_wp2_with fail
  refine (C4.out).mono ?_
  rintro e w4 ⟨rfl, hb4⟩
  have hb04 := HB3.out.trans (hb4.mono HB3.out.size)
  have HB4 := Lib.hid hb04
  clear hb4 C4
  clear hb04
  go_wp2
  go_ret
  exact ⟨rfl, HB4.out⟩
set_option maxHeartbeats 8000000 in
set_option maxRecDepth 1000000 in
theorem Rename_twice (s t : ByteArray) {x : Ent} (hf : fnd l s = some x) (hth : (fnd l t).isSome = true) (hal : al x.name t = false) (h : DirAt w base D M l vN q) (hs : Txt s) (ht : Txt t) (hl : l.length ≤ 1000) (hT : Tabs w) :
    Calls Tryd.prog 22 #[.pointer (some ⟨D, 0, none⟩), .string s, .string t] w fun e w' => e = .returned (.int .i64 8) ∧ Below w.heap.size w w' := by
  have C1 := Lib.hid (off_on D M w h.c1)
  have hsz := hs.sz
  have htz := ht.sz
  have d1 := list_ne hs.ne
  have d2 := list_ne2 hs.ne
  have d3 := list_ne ht.ne
  have d4 := list_ne2 ht.ne
  have HT := Lib.hid hT
  have HS := Lib.hid (And.intro hs ht)
  have c2 := isText_calls s w hsz hT
  rw [hs.ok] at c2
  have C2 := Lib.hid c2
  have c3 := fun W (hW : Below w.heap.size w W) => isText_calls t W htz (HT.out.below hW)
  rw [ht.ok] at c3
  have C3 := Lib.hid c3
  have HH := Lib.hid h
  have HER : Hid (errFnd l s = 0) := Lib.hid (by unfold errFnd; rw [hf]; rfl)
  have HOW : Hid (ownOf l s = x.name) := Lib.hid (by unfold ownOf; rw [hf]; rfl)
  have HNU : Hid (numOf l s = x.n) := Lib.hid (by unfold numOf; rw [hf]; rfl)
  have HF := Lib.hid hf
  have HTH := Lib.hid hth
  have HAL := Lib.hid hal
  clear hf hth hal
  clear c2 c3 hT h hs ht
  go_enter Tryd.func22, Tryd.ntmps22
  go_wp2_with fail
  refine (C1.out).mono ?_
  rintro e w1 ⟨rfl, rfl⟩
  go_wp2_with fail
  refine (C2.out).mono ?_
  rintro e w2 ⟨rfl, hb⟩
  go_wp2_with fail
  refine (C3.out _ hb).mono ?_
  rintro e w3 ⟨rfl, hb3⟩
  have hb03 := hb.trans (hb3.mono hb.size)
  have HB3 := Lib.hid hb03
  have h3 := HH.out.below hb03
  have c4 := Find_calls s h3 HS.out.1 (by omega) (HT.out.below hb03)
  rw [HER.out] at c4
  have C4 := Lib.hid c4
  clear hb hb3 hb03 h3 c4 C1 C2 C3
  go_wp2_with fail
  refine (C4.out).mono ?_
  rintro e w4 ⟨rfl, hb4⟩
  have hb04 := HB3.out.trans (hb4.mono HB3.out.size)
  have HB4 := Lib.hid hb04
  clear hb4 C4
  have hb4d := hb04.trans ((below_drew1 (Below.refl w4.heap.size w4)).mono hb04.size)
  have h4 := HH.out.below hb4d
  have hKS : ∀ W, Below w1.heap.size w1 W → W.cell? ⟨D, 1, none⟩ = some (.map (some M)) ∧ (Instr.lookup 46 (.map (some M)) (.string ⟨(fold t.data.toList).toArray⟩) true).run Tryd.prog W = .ok (.tuple #[.int .i64 (numOf l t), .bool true]) W := fun W hW => ⟨(HH.out.below hW).c1, by
    have := (HH.out.below hW).look t (by rw [fold_length]; unfold bts maxLen; rw [Array.length_toList, ByteArray.size_data]; omega)
    rw [HTH.out] at this
    exact this⟩
  have KS := Lib.hid hKS
  have hS0 := hKS _ hb4d
  have C5 := Lib.hid (fun W => Fold_calls t W (by omega))
  have HB4D := Lib.hid hb4d
  clear hb04 h4 hKS
  go_wp2_with fail
  refine AnyL.start (fun w' => w'.cell? ⟨D, 1, none⟩ = some (.map (some M)) ∧ (Instr.lookup 46 (.map (some M)) (.string ⟨(fold t.data.toList).toArray⟩) true).run Tryd.prog w' = .ok (.tuple #[.int .i64 (numOf l t), .bool true]) w') 99 (by kernel_rfl) hS0 (fun hHeld => ?_)
  refine AnyL.take (i := 0) (v := ?vy0) rfl (by kernel_rfl) (by kernel_rfl) (by kernel_rfl) (by kernel_rfl) (fun _ _ _ h => h) (by assumption) (Or.inl ⟨by rfl, ?y0⟩) ?ry0
  case y0 => (intro w hSw; (try dsimp only at hSw); go_simp; try with_reducible rfl)
  try simp only [Act.put, List.setIfInBounds_toArray, List.set_cons_zero, List.set_cons_succ]
  refine AnyL.take (i := 1) (v := ?vy1) rfl (by kernel_rfl) (by kernel_rfl) (by kernel_rfl) (by kernel_rfl) (fun _ _ _ h => h) (by assumption) (Or.inl ⟨by rfl, ?y1⟩) ?ry1
  case y1 => (intro w hSw; (try dsimp only at hSw); go_simp; try with_reducible rfl)
  try simp only [Act.put, List.setIfInBounds_toArray, List.set_cons_zero, List.set_cons_succ]
  refine AnyL.take (i := 2) (v := ?vy2) rfl (by kernel_rfl) (by kernel_rfl) (by kernel_rfl) (by kernel_rfl) (fun _ _ _ h => h) (by assumption) (Or.inl ⟨by rfl, ?y2⟩) ?ry2
  case y2 => (intro w hSw; (try dsimp only at hSw); go_simp; try with_reducible rfl)
  try simp only [Act.put, List.setIfInBounds_toArray, List.set_cons_zero, List.set_cons_succ]
  refine AnyL.take (i := 3) (v := ?vy3) rfl (by kernel_rfl) (by kernel_rfl) (by kernel_rfl) (by kernel_rfl) (fun _ _ _ h => h) (by assumption) (Or.inl ⟨by rfl, ?y3⟩) ?ry3
  case y3 => (intro w hSw; (try dsimp only at hSw); go_simp; try with_reducible rfl)
  try simp only [Act.put, List.setIfInBounds_toArray, List.set_cons_zero, List.set_cons_succ]
  refine AnyL.take (i := 4) (v := ?vy4) rfl (by kernel_rfl) (by kernel_rfl) (by kernel_rfl) (by kernel_rfl) (fun _ _ _ h => h) (by assumption) (Or.inl ⟨by rfl, ?y4⟩) ?ry4
  case y4 => (intro w hSw; (try dsimp only at hSw); go_simp; try with_reducible rfl)
  try simp only [Act.put, List.setIfInBounds_toArray, List.set_cons_zero, List.set_cons_succ]
  refine AnyL.one (i := 5) (by kernel_rfl) rfl (fun K hK => ?_)
  go_simp
  refine (C5.out _).mono ?_
  rintro e w5 ⟨rfl, hb5⟩
  have hb5' := hb4d.trans (hb5.mono hb4d.size)
  refine hK.out _ _ (.inr (KS.out _ hb5')) ?_
  clear hHeld hK K
  have hHeld := KS.out _ hb5'
  try simp only [Act.put, List.setIfInBounds_toArray, List.set_cons_zero, List.set_cons_succ]
  refine AnyL.one (i := 6) (by kernel_rfl) rfl (fun K hK => ?_)
  go_simp
  refine hK.out _ _ (.inr hHeld) ?_
  clear hK K
  try simp only [Act.put, List.setIfInBounds_toArray, List.set_cons_zero, List.set_cons_succ]
  refine AnyL.take (i := 7) (v := ?vz7) rfl (by kernel_rfl) (by kernel_rfl) (by kernel_rfl) (by kernel_rfl) (fun _ _ _ h => h) (by assumption) (Or.inl ⟨by rfl, ?z7⟩) ?rz7
  case z7 => (intro w hSw; (try dsimp only at hSw); go_simp; try with_reducible rfl)
  try simp only [Act.put, List.setIfInBounds_toArray, List.set_cons_zero, List.set_cons_succ]
  refine AnyL.take (i := 8) (v := ?vz8) rfl (by kernel_rfl) (by kernel_rfl) (by kernel_rfl) (by kernel_rfl) (fun _ _ _ h => h) (by assumption) (Or.inl ⟨by rfl, ?z8⟩) ?rz8
  case z8 => (intro w hSw; (try dsimp only at hSw); go_simp; try with_reducible rfl)
  try simp only [Act.put, List.setIfInBounds_toArray, List.set_cons_zero, List.set_cons_succ]
  refine AnyL.take (i := 9) (v := ?vz9) rfl (by kernel_rfl) (by kernel_rfl) (by kernel_rfl) (by kernel_rfl) (fun _ _ _ h => h) (by assumption) (Or.inl ⟨by rfl, ?z9⟩) ?rz9
  case z9 => (intro w hSw; (try dsimp only at hSw); go_simp; try with_reducible rfl)
  try simp only [Act.put, List.setIfInBounds_toArray, List.set_cons_zero, List.set_cons_succ]
  refine AnyL.take (i := 10) (v := ?vz10) rfl (by kernel_rfl) (by kernel_rfl) (by kernel_rfl) (by kernel_rfl) (fun _ _ _ h => h) (by assumption) (Or.inl ⟨by rfl, ?z10⟩) ?rz10
  case z10 => (intro w hSw; (try dsimp only at hSw); go_simp; try with_reducible rfl)
  try simp only [Act.put, List.setIfInBounds_toArray, List.set_cons_zero, List.set_cons_succ]
  refine AnyL.take (i := 11) (v := ?vz11) rfl (by kernel_rfl) (by kernel_rfl) (by kernel_rfl) (by kernel_rfl) (fun _ _ _ h => h) (by assumption) (Or.inl ⟨by rfl, ?z11⟩) ?rz11
  case z11 => (intro w hSw; (try dsimp only at hSw); go_simp; try with_reducible rfl)
  try simp only [Act.put, List.setIfInBounds_toArray, List.set_cons_zero, List.set_cons_succ]
  refine AnyL.done (by kernel_rfl) ?_ _
  have HB5 := Lib.hid hb5'
  clear hHeld hS0 hb4d hb5 hb5' C5 KS
  have c6 := fun W => Alike_calls (ownOf l s) t W (by rw [HOW.out]; have := (HH.out.text x (fnd_some HF.out).1).1.sz; omega) (by omega)
  rw [show alikeB (ownOf l s).data.toList t.data.toList = false from by rw [HOW.out]; exact HAL.out] at c6
  have C6 := Lib.hid c6
  clear c6
  go_wp2_with fail
  refine (C6.out _).mono ?_
  rintro e w6 ⟨rfl, hb6⟩
  have HB6 := Lib.hid (HB5.out.trans (hb6.mono HB5.out.size))
  clear hb6 C6
  go_wp2
  go_ret
  exact ⟨rfl, HB6.out⟩
set_option maxHeartbeats 8000000 in
set_option maxRecDepth 1000000 in
theorem Rename_new (s t : ByteArray) {x : Ent} (hf : fnd l s = some x) (w0 : World) (hT0 : Tabs w0) (hb0 : Below w0.heap.size w0 w) (hB0 : w0.heap.size ≤ base) (hbase : base ≤ w.heap.size) (hq : q ≤ 1000) (hth : (fnd l t).isSome = false) (h : DirAt w base D M l vN q) (hs : Txt s) (ht : Txt t) (hl : l.length ≤ 1000) (hT : Tabs w) :
    Calls Tryd.prog 22 #[.pointer (some ⟨D, 0, none⟩), .string s, .string t] w fun e w' => e = .returned (.int .i64 0) ∧ StepD w base D M vN (put (cut l s) t x.n) (q + 1) w' := by
  have C1 := Lib.hid (off_on D M w h.c1)
  have hsz := hs.sz
  have htz := ht.sz
  have d1 := list_ne hs.ne
  have d2 := list_ne2 hs.ne
  have d3 := list_ne ht.ne
  have d4 := list_ne2 ht.ne
  have HT := Lib.hid hT
  have HS := Lib.hid (And.intro hs ht)
  have c2 := isText_calls s w hsz hT
  rw [hs.ok] at c2
  have C2 := Lib.hid c2
  have c3 := fun W (hW : Below w.heap.size w W) => isText_calls t W htz (HT.out.below hW)
  rw [ht.ok] at c3
  have C3 := Lib.hid c3
  have HH := Lib.hid h
  have HER : Hid (errFnd l s = 0) := Lib.hid (by unfold errFnd; rw [hf]; rfl)
  have HOW : Hid (ownOf l s = x.name) := Lib.hid (by unfold ownOf; rw [hf]; rfl)
  have HNU : Hid (numOf l s = x.n) := Lib.hid (by unfold numOf; rw [hf]; rfl)
  have HF := Lib.hid hf
  have H0 := Lib.hid (And.intro hT0 (And.intro hb0 hB0))
  have HNO : Hid (fnd (cut l s) t = none) := Lib.hid (fnd_sub (fun y hy => cut_mem hy) (by cases e : fnd l t with
    | none => rfl
    | some y => rw [e] at hth; cases hth))
  have HTH := Lib.hid hth
  clear hf hth hT0 hb0 hB0
  clear c2 c3 hT h hs ht
  go_enter Tryd.func22, Tryd.ntmps22
  go_wp2_with fail
  refine (C1.out).mono ?_
  rintro e w1 ⟨rfl, rfl⟩
  go_wp2_with fail
  refine (C2.out).mono ?_
  rintro e w2 ⟨rfl, hb⟩
  go_wp2_with fail
  refine (C3.out _ hb).mono ?_
  rintro e w3 ⟨rfl, hb3⟩
  have hb03 := hb.trans (hb3.mono hb.size)
  have HB3 := Lib.hid hb03
  have h3 := HH.out.below hb03
  have c4 := Find_calls s h3 HS.out.1 (by omega) (HT.out.below hb03)
  rw [HER.out] at c4
  have C4 := Lib.hid c4
  clear hb hb3 hb03 h3 c4 C1 C2 C3
  go_wp2_with fail
  refine (C4.out).mono ?_
  rintro e w4 ⟨rfl, hb4⟩
  have hb04 := HB3.out.trans (hb4.mono HB3.out.size)
  have HB4 := Lib.hid hb04
  clear hb4 C4
  have hb4d := hb04.trans ((below_drew1 (Below.refl w4.heap.size w4)).mono hb04.size)
  have h4 := HH.out.below hb4d
  have hKS : ∀ W, Below w1.heap.size w1 W → W.cell? ⟨D, 1, none⟩ = some (.map (some M)) ∧ (Instr.lookup 46 (.map (some M)) (.string ⟨(fold t.data.toList).toArray⟩) true).run Tryd.prog W = .ok (.tuple #[.int .i64 (numOf l t), .bool false]) W := fun W hW => ⟨(HH.out.below hW).c1, by
    have := (HH.out.below hW).look t (by rw [fold_length]; unfold bts maxLen; rw [Array.length_toList, ByteArray.size_data]; omega)
    rw [HTH.out] at this
    exact this⟩
  have KS := Lib.hid hKS
  have hS0 := hKS _ hb4d
  have C5 := Lib.hid (fun W => Fold_calls t W (by omega))
  have HB4D := Lib.hid hb4d
  clear hb04 h4 hKS
  go_wp2_with fail
  refine AnyL.start (fun w' => w'.cell? ⟨D, 1, none⟩ = some (.map (some M)) ∧ (Instr.lookup 46 (.map (some M)) (.string ⟨(fold t.data.toList).toArray⟩) true).run Tryd.prog w' = .ok (.tuple #[.int .i64 (numOf l t), .bool false]) w') 99 (by kernel_rfl) hS0 (fun hHeld => ?_)
  refine AnyL.take (i := 0) (v := ?vy0) rfl (by kernel_rfl) (by kernel_rfl) (by kernel_rfl) (by kernel_rfl) (fun _ _ _ h => h) (by assumption) (Or.inl ⟨by rfl, ?y0⟩) ?ry0
  case y0 => (intro w hSw; (try dsimp only at hSw); go_simp; try with_reducible rfl)
  try simp only [Act.put, List.setIfInBounds_toArray, List.set_cons_zero, List.set_cons_succ]
  refine AnyL.take (i := 1) (v := ?vy1) rfl (by kernel_rfl) (by kernel_rfl) (by kernel_rfl) (by kernel_rfl) (fun _ _ _ h => h) (by assumption) (Or.inl ⟨by rfl, ?y1⟩) ?ry1
  case y1 => (intro w hSw; (try dsimp only at hSw); go_simp; try with_reducible rfl)
  try simp only [Act.put, List.setIfInBounds_toArray, List.set_cons_zero, List.set_cons_succ]
  refine AnyL.take (i := 2) (v := ?vy2) rfl (by kernel_rfl) (by kernel_rfl) (by kernel_rfl) (by kernel_rfl) (fun _ _ _ h => h) (by assumption) (Or.inl ⟨by rfl, ?y2⟩) ?ry2
  case y2 => (intro w hSw; (try dsimp only at hSw); go_simp; try with_reducible rfl)
  try simp only [Act.put, List.setIfInBounds_toArray, List.set_cons_zero, List.set_cons_succ]
  refine AnyL.take (i := 3) (v := ?vy3) rfl (by kernel_rfl) (by kernel_rfl) (by kernel_rfl) (by kernel_rfl) (fun _ _ _ h => h) (by assumption) (Or.inl ⟨by rfl, ?y3⟩) ?ry3
  case y3 => (intro w hSw; (try dsimp only at hSw); go_simp; try with_reducible rfl)
  try simp only [Act.put, List.setIfInBounds_toArray, List.set_cons_zero, List.set_cons_succ]
  refine AnyL.take (i := 4) (v := ?vy4) rfl (by kernel_rfl) (by kernel_rfl) (by kernel_rfl) (by kernel_rfl) (fun _ _ _ h => h) (by assumption) (Or.inl ⟨by rfl, ?y4⟩) ?ry4
  case y4 => (intro w hSw; (try dsimp only at hSw); go_simp; try with_reducible rfl)
  try simp only [Act.put, List.setIfInBounds_toArray, List.set_cons_zero, List.set_cons_succ]
  refine AnyL.one (i := 5) (by kernel_rfl) rfl (fun K hK => ?_)
  go_simp
  refine (C5.out _).mono ?_
  rintro e w5 ⟨rfl, hb5⟩
  have hb5' := hb4d.trans (hb5.mono hb4d.size)
  refine hK.out _ _ (.inr (KS.out _ hb5')) ?_
  clear hHeld hK K
  have hHeld := KS.out _ hb5'
  try simp only [Act.put, List.setIfInBounds_toArray, List.set_cons_zero, List.set_cons_succ]
  refine AnyL.one (i := 6) (by kernel_rfl) rfl (fun K hK => ?_)
  go_simp
  refine hK.out _ _ (.inr hHeld) ?_
  clear hK K
  try simp only [Act.put, List.setIfInBounds_toArray, List.set_cons_zero, List.set_cons_succ]
  refine AnyL.take (i := 7) (v := ?vz7) rfl (by kernel_rfl) (by kernel_rfl) (by kernel_rfl) (by kernel_rfl) (fun _ _ _ h => h) (by assumption) (Or.inl ⟨by rfl, ?z7⟩) ?rz7
  case z7 => (intro w hSw; (try dsimp only at hSw); go_simp; try with_reducible rfl)
  try simp only [Act.put, List.setIfInBounds_toArray, List.set_cons_zero, List.set_cons_succ]
  refine AnyL.take (i := 8) (v := ?vz8) rfl (by kernel_rfl) (by kernel_rfl) (by kernel_rfl) (by kernel_rfl) (fun _ _ _ h => h) (by assumption) (Or.inl ⟨by rfl, ?z8⟩) ?rz8
  case z8 => (intro w hSw; (try dsimp only at hSw); go_simp; try with_reducible rfl)
  try simp only [Act.put, List.setIfInBounds_toArray, List.set_cons_zero, List.set_cons_succ]
  refine AnyL.take (i := 9) (v := ?vz9) rfl (by kernel_rfl) (by kernel_rfl) (by kernel_rfl) (by kernel_rfl) (fun _ _ _ h => h) (by assumption) (Or.inl ⟨by rfl, ?z9⟩) ?rz9
  case z9 => (intro w hSw; (try dsimp only at hSw); go_simp; try with_reducible rfl)
  try simp only [Act.put, List.setIfInBounds_toArray, List.set_cons_zero, List.set_cons_succ]
  refine AnyL.take (i := 10) (v := ?vz10) rfl (by kernel_rfl) (by kernel_rfl) (by kernel_rfl) (by kernel_rfl) (fun _ _ _ h => h) (by assumption) (Or.inl ⟨by rfl, ?z10⟩) ?rz10
  case z10 => (intro w hSw; (try dsimp only at hSw); go_simp; try with_reducible rfl)
  try simp only [Act.put, List.setIfInBounds_toArray, List.set_cons_zero, List.set_cons_succ]
  refine AnyL.take (i := 11) (v := ?vz11) rfl (by kernel_rfl) (by kernel_rfl) (by kernel_rfl) (by kernel_rfl) (fun _ _ _ h => h) (by assumption) (Or.inl ⟨by rfl, ?z11⟩) ?rz11
  case z11 => (intro w hSw; (try dsimp only at hSw); go_simp; try with_reducible rfl)
  try simp only [Act.put, List.setIfInBounds_toArray, List.set_cons_zero, List.set_cons_succ]
  refine AnyL.done (by kernel_rfl) ?_ _
  have HB5 := Lib.hid hb5'
  clear hHeld hS0 hb4d hb5 hb5' C5 KS
  have h6 := HH.out.below HB5.out
  have hT6 := HT.out.below HB5.out
  have C7 := Lib.hid (Remove_calls s h6 HS.out.1 hl hT6 HF.out)
  have HW0 := Lib.hid (H0.out.2.1.trans (HB5.out.mono H0.out.2.1.size))
  clear h6 hT6
  go_wp2_with fail
  refine (C7.out).mono ?_
  rintro e w7 ⟨rfl, v7, hd7, hf7, hs7⟩
  have hrow := (HH.out.below HB5.out).row
  have hb7 := hf7.below HW0.out (Nat.le_refl _) (Nat.le_trans H0.out.2.2 HH.out.bD) (Nat.le_trans H0.out.2.2 HH.out.bM) (fun k e => Nat.le_trans H0.out.2.2 (hrow.lt k e).1)
  have hfr7 := (FrD.of_below HB5.out D M vN).trans hf7 (SameV.refl _ _)
  have hsv7 : SameV w1 vN v7 := (SameV.refl w1 vN).trans HB5.out.size hs7
  have c8 := Add_calls t x.n hd7 HS.out.2 (HH.out.text x (fnd_some HF.out).1).2 (Nat.le_trans (cut_len _ _) hl) hq (Nat.le_trans hbase (hfr7.size)) (H0.out.1.below hb7) HNO.out
  rw [← HNU.out] at c8
  have C8 := Lib.hid c8
  have HR := Lib.hid (And.intro hfr7 hsv7)
  clear hd7 hf7 hs7 hrow hb7 hfr7 hsv7 c8 C7
  go_wp2_with fail
  refine (C8.out).mono ?_
  rintro e w8 ⟨rfl, v8, hd8, hf8, hs8⟩
  have hfin : StepD w1 base D M vN (put (cut l s) t (numOf l s)) (q + 1) w8 := ⟨v8, hd8, HR.out.1.trans hf8 HR.out.2, HR.out.2.trans HR.out.1.size hs8⟩
  rw [HNU.out] at hfin
  have HFIN := Lib.hid hfin
  clear hd8 hf8 hs8 hfin C8
  go_wp2
  go_ret
  exact ⟨rfl, HFIN.out⟩
set_option maxHeartbeats 8000000 in
set_option maxRecDepth 1000000 in
theorem Rename_same (s t : ByteArray) {x : Ent} (hf : fnd l s = some x) (w0 : World) (hT0 : Tabs w0) (hb0 : Below w0.heap.size w0 w) (hB0 : w0.heap.size ≤ base) (hbase : base ≤ w.heap.size) (hq : q ≤ 1000) (hth : (fnd l t).isSome = true) (hal : al x.name t = true) (h : DirAt w base D M l vN q) (hs : Txt s) (ht : Txt t) (hl : l.length ≤ 1000) (hT : Tabs w) :
    Calls Tryd.prog 22 #[.pointer (some ⟨D, 0, none⟩), .string s, .string t] w fun e w' => e = .returned (.int .i64 0) ∧ StepD w base D M vN (put (cut l s) t x.n) (q + 1) w' := by
  have C1 := Lib.hid (off_on D M w h.c1)
  have hsz := hs.sz
  have htz := ht.sz
  have d1 := list_ne hs.ne
  have d2 := list_ne2 hs.ne
  have d3 := list_ne ht.ne
  have d4 := list_ne2 ht.ne
  have HT := Lib.hid hT
  have HS := Lib.hid (And.intro hs ht)
  have c2 := isText_calls s w hsz hT
  rw [hs.ok] at c2
  have C2 := Lib.hid c2
  have c3 := fun W (hW : Below w.heap.size w W) => isText_calls t W htz (HT.out.below hW)
  rw [ht.ok] at c3
  have C3 := Lib.hid c3
  have HH := Lib.hid h
  have HER : Hid (errFnd l s = 0) := Lib.hid (by unfold errFnd; rw [hf]; rfl)
  have HOW : Hid (ownOf l s = x.name) := Lib.hid (by unfold ownOf; rw [hf]; rfl)
  have HNU : Hid (numOf l s = x.n) := Lib.hid (by unfold numOf; rw [hf]; rfl)
  have HF := Lib.hid hf
  have H0 := Lib.hid (And.intro hT0 (And.intro hb0 hB0))
  have HNO : Hid (fnd (cut l s) t = none) := Lib.hid (fnd_cut h.rise hf hal)
  have HTH := Lib.hid hth
  have HAL := Lib.hid hal
  clear hf hth hal hT0 hb0 hB0
  clear c2 c3 hT h hs ht
  go_enter Tryd.func22, Tryd.ntmps22
  go_wp2_with fail
  refine (C1.out).mono ?_
  rintro e w1 ⟨rfl, rfl⟩
  go_wp2_with fail
  refine (C2.out).mono ?_
  rintro e w2 ⟨rfl, hb⟩
  go_wp2_with fail
  refine (C3.out _ hb).mono ?_
  rintro e w3 ⟨rfl, hb3⟩
  have hb03 := hb.trans (hb3.mono hb.size)
  have HB3 := Lib.hid hb03
  have h3 := HH.out.below hb03
  have c4 := Find_calls s h3 HS.out.1 (by omega) (HT.out.below hb03)
  rw [HER.out] at c4
  have C4 := Lib.hid c4
  clear hb hb3 hb03 h3 c4 C1 C2 C3
  go_wp2_with fail
  refine (C4.out).mono ?_
  rintro e w4 ⟨rfl, hb4⟩
  have hb04 := HB3.out.trans (hb4.mono HB3.out.size)
  have HB4 := Lib.hid hb04
  clear hb4 C4
  have hb4d := hb04.trans ((below_drew1 (Below.refl w4.heap.size w4)).mono hb04.size)
  have h4 := HH.out.below hb4d
  have hKS : ∀ W, Below w1.heap.size w1 W → W.cell? ⟨D, 1, none⟩ = some (.map (some M)) ∧ (Instr.lookup 46 (.map (some M)) (.string ⟨(fold t.data.toList).toArray⟩) true).run Tryd.prog W = .ok (.tuple #[.int .i64 (numOf l t), .bool true]) W := fun W hW => ⟨(HH.out.below hW).c1, by
    have := (HH.out.below hW).look t (by rw [fold_length]; unfold bts maxLen; rw [Array.length_toList, ByteArray.size_data]; omega)
    rw [HTH.out] at this
    exact this⟩
  have KS := Lib.hid hKS
  have hS0 := hKS _ hb4d
  have C5 := Lib.hid (fun W => Fold_calls t W (by omega))
  have HB4D := Lib.hid hb4d
  clear hb04 h4 hKS
  go_wp2_with fail
  refine AnyL.start (fun w' => w'.cell? ⟨D, 1, none⟩ = some (.map (some M)) ∧ (Instr.lookup 46 (.map (some M)) (.string ⟨(fold t.data.toList).toArray⟩) true).run Tryd.prog w' = .ok (.tuple #[.int .i64 (numOf l t), .bool true]) w') 99 (by kernel_rfl) hS0 (fun hHeld => ?_)
  refine AnyL.take (i := 0) (v := ?vy0) rfl (by kernel_rfl) (by kernel_rfl) (by kernel_rfl) (by kernel_rfl) (fun _ _ _ h => h) (by assumption) (Or.inl ⟨by rfl, ?y0⟩) ?ry0
  case y0 => (intro w hSw; (try dsimp only at hSw); go_simp; try with_reducible rfl)
  try simp only [Act.put, List.setIfInBounds_toArray, List.set_cons_zero, List.set_cons_succ]
  refine AnyL.take (i := 1) (v := ?vy1) rfl (by kernel_rfl) (by kernel_rfl) (by kernel_rfl) (by kernel_rfl) (fun _ _ _ h => h) (by assumption) (Or.inl ⟨by rfl, ?y1⟩) ?ry1
  case y1 => (intro w hSw; (try dsimp only at hSw); go_simp; try with_reducible rfl)
  try simp only [Act.put, List.setIfInBounds_toArray, List.set_cons_zero, List.set_cons_succ]
  refine AnyL.take (i := 2) (v := ?vy2) rfl (by kernel_rfl) (by kernel_rfl) (by kernel_rfl) (by kernel_rfl) (fun _ _ _ h => h) (by assumption) (Or.inl ⟨by rfl, ?y2⟩) ?ry2
  case y2 => (intro w hSw; (try dsimp only at hSw); go_simp; try with_reducible rfl)
  try simp only [Act.put, List.setIfInBounds_toArray, List.set_cons_zero, List.set_cons_succ]
  refine AnyL.take (i := 3) (v := ?vy3) rfl (by kernel_rfl) (by kernel_rfl) (by kernel_rfl) (by kernel_rfl) (fun _ _ _ h => h) (by assumption) (Or.inl ⟨by rfl, ?y3⟩) ?ry3
  case y3 => (intro w hSw; (try dsimp only at hSw); go_simp; try with_reducible rfl)
  try simp only [Act.put, List.setIfInBounds_toArray, List.set_cons_zero, List.set_cons_succ]
  refine AnyL.take (i := 4) (v := ?vy4) rfl (by kernel_rfl) (by kernel_rfl) (by kernel_rfl) (by kernel_rfl) (fun _ _ _ h => h) (by assumption) (Or.inl ⟨by rfl, ?y4⟩) ?ry4
  case y4 => (intro w hSw; (try dsimp only at hSw); go_simp; try with_reducible rfl)
  try simp only [Act.put, List.setIfInBounds_toArray, List.set_cons_zero, List.set_cons_succ]
  refine AnyL.one (i := 5) (by kernel_rfl) rfl (fun K hK => ?_)
  go_simp
  refine (C5.out _).mono ?_
  rintro e w5 ⟨rfl, hb5⟩
  have hb5' := hb4d.trans (hb5.mono hb4d.size)
  refine hK.out _ _ (.inr (KS.out _ hb5')) ?_
  clear hHeld hK K
  have hHeld := KS.out _ hb5'
  try simp only [Act.put, List.setIfInBounds_toArray, List.set_cons_zero, List.set_cons_succ]
  refine AnyL.one (i := 6) (by kernel_rfl) rfl (fun K hK => ?_)
  go_simp
  refine hK.out _ _ (.inr hHeld) ?_
  clear hK K
  try simp only [Act.put, List.setIfInBounds_toArray, List.set_cons_zero, List.set_cons_succ]
  refine AnyL.take (i := 7) (v := ?vz7) rfl (by kernel_rfl) (by kernel_rfl) (by kernel_rfl) (by kernel_rfl) (fun _ _ _ h => h) (by assumption) (Or.inl ⟨by rfl, ?z7⟩) ?rz7
  case z7 => (intro w hSw; (try dsimp only at hSw); go_simp; try with_reducible rfl)
  try simp only [Act.put, List.setIfInBounds_toArray, List.set_cons_zero, List.set_cons_succ]
  refine AnyL.take (i := 8) (v := ?vz8) rfl (by kernel_rfl) (by kernel_rfl) (by kernel_rfl) (by kernel_rfl) (fun _ _ _ h => h) (by assumption) (Or.inl ⟨by rfl, ?z8⟩) ?rz8
  case z8 => (intro w hSw; (try dsimp only at hSw); go_simp; try with_reducible rfl)
  try simp only [Act.put, List.setIfInBounds_toArray, List.set_cons_zero, List.set_cons_succ]
  refine AnyL.take (i := 9) (v := ?vz9) rfl (by kernel_rfl) (by kernel_rfl) (by kernel_rfl) (by kernel_rfl) (fun _ _ _ h => h) (by assumption) (Or.inl ⟨by rfl, ?z9⟩) ?rz9
  case z9 => (intro w hSw; (try dsimp only at hSw); go_simp; try with_reducible rfl)
  try simp only [Act.put, List.setIfInBounds_toArray, List.set_cons_zero, List.set_cons_succ]
  refine AnyL.take (i := 10) (v := ?vz10) rfl (by kernel_rfl) (by kernel_rfl) (by kernel_rfl) (by kernel_rfl) (fun _ _ _ h => h) (by assumption) (Or.inl ⟨by rfl, ?z10⟩) ?rz10
  case z10 => (intro w hSw; (try dsimp only at hSw); go_simp; try with_reducible rfl)
  try simp only [Act.put, List.setIfInBounds_toArray, List.set_cons_zero, List.set_cons_succ]
  refine AnyL.take (i := 11) (v := ?vz11) rfl (by kernel_rfl) (by kernel_rfl) (by kernel_rfl) (by kernel_rfl) (fun _ _ _ h => h) (by assumption) (Or.inl ⟨by rfl, ?z11⟩) ?rz11
  case z11 => (intro w hSw; (try dsimp only at hSw); go_simp; try with_reducible rfl)
  try simp only [Act.put, List.setIfInBounds_toArray, List.set_cons_zero, List.set_cons_succ]
  refine AnyL.done (by kernel_rfl) ?_ _
  have HB5 := Lib.hid hb5'
  clear hHeld hS0 hb4d hb5 hb5' C5 KS
  have c6 := fun W => Alike_calls (ownOf l s) t W (by rw [HOW.out]; have := (HH.out.text x (fnd_some HF.out).1).1.sz; omega) (by omega)
  rw [show alikeB (ownOf l s).data.toList t.data.toList = true from by rw [HOW.out]; exact HAL.out] at c6
  have C6 := Lib.hid c6
  clear c6
  go_wp2_with fail
  refine (C6.out _).mono ?_
  rintro e w6 ⟨rfl, hb6⟩
  have HB6 := Lib.hid (HB5.out.trans (hb6.mono HB5.out.size))
  clear hb6 C6
  have h6 := HH.out.below HB6.out
  have hT6 := HT.out.below HB6.out
  have C7 := Lib.hid (Remove_calls s h6 HS.out.1 hl hT6 HF.out)
  have HW0 := Lib.hid (H0.out.2.1.trans (HB6.out.mono H0.out.2.1.size))
  clear h6 hT6
  go_wp2_with fail
  refine (C7.out).mono ?_
  rintro e w7 ⟨rfl, v7, hd7, hf7, hs7⟩
  have hrow := (HH.out.below HB6.out).row
  have hb7 := hf7.below HW0.out (Nat.le_refl _) (Nat.le_trans H0.out.2.2 HH.out.bD) (Nat.le_trans H0.out.2.2 HH.out.bM) (fun k e => Nat.le_trans H0.out.2.2 (hrow.lt k e).1)
  have hfr7 := (FrD.of_below HB6.out D M vN).trans hf7 (SameV.refl _ _)
  have hsv7 : SameV w1 vN v7 := (SameV.refl w1 vN).trans HB6.out.size hs7
  have c8 := Add_calls t x.n hd7 HS.out.2 (HH.out.text x (fnd_some HF.out).1).2 (Nat.le_trans (cut_len _ _) hl) hq (Nat.le_trans hbase (hfr7.size)) (H0.out.1.below hb7) HNO.out
  rw [← HNU.out] at c8
  have C8 := Lib.hid c8
  have HR := Lib.hid (And.intro hfr7 hsv7)
  clear hd7 hf7 hs7 hrow hb7 hfr7 hsv7 c8 C7
  go_wp2_with fail
  refine (C8.out).mono ?_
  rintro e w8 ⟨rfl, v8, hd8, hf8, hs8⟩
  have hfin : StepD w1 base D M vN (put (cut l s) t (numOf l s)) (q + 1) w8 := ⟨v8, hd8, HR.out.1.trans hf8 HR.out.2, HR.out.2.trans HR.out.1.size hs8⟩
  rw [HNU.out] at hfin
  have HFIN := Lib.hid hfin
  clear hd8 hf8 hs8 hfin C8
  go_wp2
  go_ret
  exact ⟨rfl, HFIN.out⟩
end
end Go.Proofs.YtkdjkndnilmjmaaDoor.U
