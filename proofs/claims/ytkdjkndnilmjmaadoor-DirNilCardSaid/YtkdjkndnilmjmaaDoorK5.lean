/- The texts Dtwo, Dact, Dplayed, Dtexts, Dworks, Bulk, Back, OpenD, one behind the other. -/
import Derived.Test.YtkdjkndnilmjmaaDoorK3
import Derived.Test.YtkdjkndnilmjmaaDoorK4
import Derived.Test.YtkdjkndnilmjmaaDoorPRx16
import Derived.Test.YtkdjkndnilmjmaaDoorRows
import Derived.Test.YtkdjkndnilmjmaaDoorChecked
import Derived.WalkKit
import Derived.ProofKit
import Derived.Below
import Derived.Carry
import Derived.Lib.Hide
import Derived.OpenShut
import Derived.ChangeOld
import Derived.Lib.SmallJoins
/- dir: what each call leaves, in one word each: on the directory, and on the document's. -/
set_option linter.unusedVariables false
set_option linter.unusedSimpArgs false
namespace Go.Proofs.YtkdjkndnilmjmaaDoor.U
open Go.RowKit Go.Proofs Go.Lib Go.Proofs.YtkdjkndnilmjmaaDoorW.PrintWords

def okT (s : ByteArray) : Bool := decide (s ≠ ⟨#[]⟩) && valid (bts s)
def addR (l : List Ent) (s : ByteArray) (n : Int) : List Ent × Int := if okT s = true then (if (fnd l s).isSome = true then (l, 8) else (put l s n, 0)) else (l, 5)
def remR (l : List Ent) (s : ByteArray) : List Ent × Int := if okT s = true then (if (fnd l s).isSome = true then (cut l s, 0) else (l, 7)) else (l, 5)
def renR (l : List Ent) (s t : ByteArray) : List Ent × Int := if okT s = true ∧ okT t = true then (match fnd l s with
  | none => (l, 7)
  | some x => if (fnd l t).isSome = true ∧ al x.name t = false then (l, 8) else (put (cut l s) t x.n, 0)) else (l, 5)
def fiN (l : List Ent) (s : ByteArray) : Int := if okT s = true then numOf l s else 0
def fiO (l : List Ent) (s : ByteArray) : ByteArray := if okT s = true then ownOf l s else ⟨#[]⟩
def fiE (l : List Ent) (s : ByteArray) : Int := if okT s = true then errFnd l s else 5
/-- A text, or what is wrong with it. -/
theorem okT_cases (s : ByteArray) (hs : s.size ≤ 1048576) : (okT s = true ∧ Txt s) ∨ (okT s = false ∧ (s = ⟨#[]⟩ ∨ s ≠ ⟨#[]⟩ ∧ valid (bts s) = false)) := by
  unfold okT
  by_cases h : s = ⟨#[]⟩
  · right
    rw [decide_eq_false (by simpa using h)]
    exact ⟨rfl, .inl h⟩
  · rw [decide_eq_true h]
    cases hv : valid (bts s) with
    | true => exact .inl ⟨rfl, h, hv, hs⟩
    | false => exact .inr ⟨rfl, .inr ⟨h, rfl⟩⟩
/-- What a list of a directory is. -/
structure GL (n : Nat) (l : List Ent) : Prop where
  rise : Rise l
  text : ∀ x ∈ l, Txt x.name ∧ (Lit.int .i64 x.n).wf = true
  len : l.length ≤ n
theorem GL.mono {n m : Nat} {l : List Ent} (h : GL n l) (hm : n ≤ m) : GL m l := ⟨h.rise, h.text, Nat.le_trans h.len hm⟩
theorem GL.sz {n : Nat} {l : List Ent} (h : GL n l) : ∀ x ∈ l, x.name.size ≤ 1048576 := fun x hx => (h.text x hx).1.sz
theorem GL.put {n : Nat} {l : List Ent} (h : GL n l) {s : ByteArray} {k : Int} (hx : Txt s) (hk : (Lit.int .i64 k).wf = true) (hf : fnd l s = none) : GL (n + 1) (put l s k) :=
  ⟨put_rise h.rise hf k, fun x hx' => by
    rcases put_mem hx' with rfl | hx'
    · exact ⟨hx, hk⟩
    · exact h.text x hx', by rw [put_len]; have := h.len; omega⟩
theorem GL.cut {n : Nat} {l : List Ent} (h : GL n l) (s : ByteArray) : GL n (cut l s) := ⟨cut_rise h.rise s, fun y hy => h.text y (cut_mem hy), Nat.le_trans (cut_len _ _) h.len⟩
theorem isSome_none {α : Type} {o : Option α} (h : ¬ o.isSome = true) : o = none := by
  cases o with
  | none => rfl
  | some x => exact absurd rfl h
theorem addR_good {n : Nat} {l : List Ent} (h : GL n l) {s : ByteArray} {k : Int} (hs : s.size ≤ 1048576) (hk : (Lit.int .i64 k).wf = true) : GL (n + 1) (addR l s k).1 := by
  unfold addR
  rcases okT_cases s hs with ⟨e, hx⟩ | ⟨e, _⟩
  · rw [if_pos e]
    split
    · exact h.mono (Nat.le_succ _)
    · rename_i hf
      exact h.put hx hk (isSome_none hf)
  · rw [if_neg (by rw [e]; decide)]
    exact h.mono (Nat.le_succ _)
theorem remR_good {n : Nat} {l : List Ent} (h : GL n l) (s : ByteArray) : GL n (remR l s).1 := by
  unfold remR
  split
  · split
    · exact h.cut s
    · exact h
  · exact h
theorem renR_good {n : Nat} {l : List Ent} (h : GL n l) {s t : ByteArray} (hs : s.size ≤ 1048576) (ht : t.size ≤ 1048576) : GL (n + 1) (renR l s t).1 := by
  unfold renR
  split
  · rename_i hh
    rcases okT_cases t ht with ⟨_, hx⟩ | ⟨e, _⟩
    · cases hf : fnd l s with
      | none => exact h.mono (Nat.le_succ _)
      | some x =>
        dsimp only
        split
        · exact h.mono (Nat.le_succ _)
        · rename_i hc
          refine (h.cut s).put hx (h.text x (fnd_some hf).1).2 ?_
          by_cases hth : (fnd l t).isSome = true
          · refine fnd_cut h.rise hf ?_
            cases ha : al x.name t with
            | true => rfl
            | false => exact absurd ⟨hth, ha⟩ hc
          · exact fnd_sub (fun y hy => cut_mem hy) (isSome_none hth)
    · rw [hh.2] at e
      cases e
  · exact h.mono (Nat.le_succ _)
/-- The directory, the acts counted. -/
def DP (w : World) (base D M n : Nat) (l : List Ent) : Prop := ∃ vN q, DirAt w base D M l vN q ∧ q ≤ n ∧ l.length ≤ n
structure Env (w0 w : World) (base : Nat) : Prop where
  tabs : Tabs w0
  le : w0.heap.size ≤ base
  below : Below w0.heap.size w0 w
  base : base ≤ w.heap.size
/-- Blocks of other kinds stand. -/
def Kp (w w' : World) : Prop := ∀ (k : Nat) (cs : Array Value) (t : TypeId) (fz : Nat × Nat), w.heap[k]? = some (.cells cs t fz) → t ≠ 48 → t ≠ 9 → w'.heap[k]? = some (.cells cs t fz)
section
variable {w w' w0 w1 : World} {base D M R n q : Nat} {l : List Ent} {vN vL : Value}
theorem Env.tab (h : Env w0 w base) : Tabs w := h.tabs.below h.below
theorem Env.step (h : Env w0 w base) (hb : Below base w w') : Env w0 w' base := ⟨h.tabs, h.le, h.below.trans (hb.mono h.le), Nat.le_trans h.base hb.size⟩
theorem Env.on (h : Env w0 w base) (hb : Below w.heap.size w w') : Env w0 w' base := h.step (hb.mono h.base)
theorem Kp.of_below (h : Below w.heap.size w w') : Kp w w' := fun k cs t fz hh _ _ => kept_below h _ _ hh
theorem Kp.trans (h : Kp w w') (h' : Kp w' w1) : Kp w w1 := fun k cs t fz hh a b => h' k cs t fz (h k cs t fz hh a b) a b
theorem FrD.kp (hf : FrD w w' D M vN) (hd : DirAt w base D M l vN q) : Kp w w' := fun k cs t fz hh h1 h2 => by
  obtain ⟨Dt, hm, _⟩ := hd.map
  rw [hf.block k (Array.getElem?_eq_some_iff.1 hh).1 (ne_block hh hd.head h1) (fun e => ?_) (fun e => ?_)]
  · exact hh
  · subst e
    obtain ⟨es, clock, h3, _⟩ := hm
    rw [hh] at h3
    cases h3
  · obtain ⟨cs', hc⟩ := own_type hd.row k e
    exact ne_block hh hc h2 rfl
theorem RefD.kp (h : RefD w base R l vL) (hk : Kp w w') : RefD w' base R l vL := by
  refine ⟨hk _ _ _ _ h.head (by decide) (by decide), own_stay h.row fun k e => ?_, h.bR⟩
  obtain ⟨cs, hc⟩ := own_type h.row k e
  rw [hk _ _ _ _ hc (by decide) (by decide), hc]
theorem DirAt.frr (h : DirAt w base D M l vN q) (hr : RefD w base R l vL) (hf : FrR w w' R) : DirAt w' base D M l vN q := by
  obtain ⟨Dt, hm, h2⟩ := h.map
  have hM : M ≠ R := fun e => by
    subst e
    obtain ⟨es, clock, h3, _⟩ := hm
    rw [hr.head] at h3
    cases h3
  refine ⟨?_, own_stay h.row fun k e => ?_, ⟨Dt, map_stay hm (hf.block M hm.lt hM), h2⟩, h.rise, h.text, h.bD, h.bM⟩
  · rw [hf.block D h.lt (ne_block h.head hr.head (by decide))]
    exact h.head
  · obtain ⟨cs, hc⟩ := own_type h.row k e
    exact hf.block k (Array.getElem?_eq_some_iff.1 hc).1 (ne_block hc hr.head (by decide))
theorem DP.below (h : DP w base D M n l) (hb : Below w.heap.size w w') : DP w' base D M n l := by
  obtain ⟨vN, q, h1, h2⟩ := h
  exact ⟨vN, q, h1.below hb, h2⟩
theorem DP.good (h : DP w base D M n l) : GL n l := by
  obtain ⟨vN, q, h1, _, h2⟩ := h
  exact ⟨h1.rise, h1.text, h2⟩
theorem DP.mono {m : Nat} (h : DP w base D M n l) (hm : n ≤ m) : DP w base D M m l := by
  obtain ⟨vN, q, h1, h2, h3⟩ := h
  exact ⟨vN, q, h1, by omega, by omega⟩
/-- Behind a call on the directory. -/
def StD (w : World) (base D M n : Nat) (l' : List Ent) (w' : World) : Prop := DP w' base D M n l' ∧ Kp w w' ∧ Below base w w'
theorem DP.still (h : DP w base D M n l) (hbs : base ≤ w.heap.size) (hb : Below w.heap.size w w') : StD w base D M (n + 1) l w' := ⟨(h.below hb).mono (Nat.le_succ _), Kp.of_below hb, hb.mono hbs⟩
theorem DirAt.moved {l' : List Ent} {q' : Nat} (h : DirAt w base D M l vN q) (hbs : base ≤ w.heap.size) (hs : StepD w base D M vN l' q' w') (hq : q' ≤ n) (hl : l'.length ≤ n) : StD w base D M n l' w' := by
  obtain ⟨vN', h1, hf, _⟩ := hs
  exact ⟨⟨vN', q', h1, hq, hl⟩, hf.kp h, hf.below (Below.refl base w) hbs h.bD h.bM (fun k e => (h.row.lt k e).1)⟩
theorem DFind (h : DP w base D M n l) (hn : n ≤ 900) (he : Env w0 w base) (s : ByteArray) (hs : s.size ≤ 1048576) :
    Calls Tryd.prog 18 #[.pointer (some ⟨D, 0, none⟩), .string s] w fun e w' => e = .returned (.tuple #[.int .i64 (fiN l s), .string (fiO l s), .int .i64 (fiE l s)]) ∧ Below w.heap.size w w' := by
  obtain ⟨vN, q, h1, h2, h3⟩ := h
  unfold fiN fiO fiE
  rcases okT_cases s hs with ⟨e, hx⟩ | ⟨e, hx⟩
  · rw [if_pos e, if_pos e, if_pos e]
    exact Find_calls s h1 hx (by omega) he.tab
  · rw [if_neg (by rw [e]; decide), if_neg (by rw [e]; decide), if_neg (by rw [e]; decide)]
    rcases hx with rfl | ⟨hx, hv⟩
    · exact Find_empty h1
    · exact Find_form s h1 hx hv hs he.tab
theorem DAdd (h : DP w base D M n l) (hn : n ≤ 900) (he : Env w0 w base) (s : ByteArray) (k : Int) (hs : s.size ≤ 1048576) (hk : (Lit.int .i64 k).wf = true) :
    Calls Tryd.prog 17 #[.pointer (some ⟨D, 0, none⟩), .string s, .int .i64 k] w fun e w' => e = .returned (.int .i64 (addR l s k).2) ∧ StD w base D M (n + 1) (addR l s k).1 w' := by
  have hst := fun {w' : World} => h.still (w' := w') he.base
  obtain ⟨vN, q, h1, h2, h3⟩ := h
  unfold addR
  rcases okT_cases s hs with ⟨e, hx⟩ | ⟨e, hx⟩
  · rw [if_pos e]
    by_cases hf : (fnd l s).isSome = true
    · rw [if_pos hf]
      have c := Find_calls s h1 hx (by omega) he.tab
      rw [show errFnd l s = 0 by unfold errFnd; rw [if_pos hf]] at c
      exact (Add_of0 _ s k _ _ c).mono fun e w' ⟨h4, h5⟩ => ⟨h4, hst h5⟩
    · rw [if_neg hf]
      refine (Add_calls s k h1 hx hk (by omega) (by omega) he.base he.tab (isSome_none hf)).mono fun e w' ⟨h4, h5⟩ => ⟨h4, h1.moved he.base h5 (by omega) ?_⟩
      show (U.put l s k).length ≤ n + 1
      rw [put_len]
      omega
  · rw [if_neg (by rw [e]; decide)]
    rcases hx with rfl | ⟨hx, hv⟩
    · exact (Add_of5 _ _ k _ _ (Find_empty h1)).mono fun e w' ⟨h4, h5⟩ => ⟨h4, hst h5⟩
    · exact (Add_of5 _ s k _ _ (Find_form s h1 hx hv hs he.tab)).mono fun e w' ⟨h4, h5⟩ => ⟨h4, hst h5⟩
theorem DRemove (h : DP w base D M n l) (hn : n ≤ 900) (he : Env w0 w base) (s : ByteArray) (hs : s.size ≤ 1048576) :
    Calls Tryd.prog 21 #[.pointer (some ⟨D, 0, none⟩), .string s] w fun e w' => e = .returned (.int .i64 (remR l s).2) ∧ StD w base D M (n + 1) (remR l s).1 w' := by
  have hst := fun {w' : World} => h.still (w' := w') he.base
  obtain ⟨vN, q, h1, h2, h3⟩ := h
  unfold remR
  rcases okT_cases s hs with ⟨e, hx⟩ | ⟨e, hx⟩
  · rw [if_pos e]
    have c := Find_calls s h1 hx (by omega) he.tab
    by_cases hf : (fnd l s).isSome = true
    · rw [if_pos hf]
      obtain ⟨x, hx2⟩ := Option.isSome_iff_exists.1 hf
      refine (Remove_calls s h1 hx (by omega) he.tab hx2).mono fun e w' ⟨h4, h5⟩ => ⟨h4, h1.moved he.base h5 (by omega) (Nat.le_trans (cut_len _ _) (by omega))⟩
    · rw [if_neg hf]
      rw [show errFnd l s = 7 by unfold errFnd; rw [if_neg hf]] at c
      exact (Remove_of7 _ s _ _ c).mono fun e w' ⟨h4, h5⟩ => ⟨h4, hst h5⟩
  · rw [if_neg (by rw [e]; decide)]
    rcases hx with rfl | ⟨hx, hv⟩
    · exact (Remove_of5 _ _ _ _ (Find_empty h1)).mono fun e w' ⟨h4, h5⟩ => ⟨h4, hst h5⟩
    · exact (Remove_of5 _ s _ _ (Find_form s h1 hx hv hs he.tab)).mono fun e w' ⟨h4, h5⟩ => ⟨h4, hst h5⟩
theorem DRename (h : DP w base D M n l) (hn : n ≤ 900) (he : Env w0 w base) (s t : ByteArray) (hs : s.size ≤ 1048576) (ht : t.size ≤ 1048576) :
    Calls Tryd.prog 22 #[.pointer (some ⟨D, 0, none⟩), .string s, .string t] w fun e w' => e = .returned (.int .i64 (renR l s t).2) ∧ StD w base D M (n + 1) (renR l s t).1 w' := by
  have hst := fun {w' : World} => h.still (w' := w') he.base
  have hg := (renR_good h.good hs ht).len
  obtain ⟨vN, q, h1, h2, h3⟩ := h
  unfold renR at hg ⊢
  rcases okT_cases s hs with ⟨e, hx⟩ | ⟨e, hx⟩
  · rcases okT_cases t ht with ⟨e2, hx2⟩ | ⟨e2, hx2⟩
    · rw [if_pos ⟨e, e2⟩] at hg ⊢
      cases hf : fnd l s with
      | none => exact (Rename_none s t hf h1 hx hx2 (by omega) he.tab).mono fun e w' ⟨h4, h5⟩ => ⟨h4, hst h5⟩
      | some x =>
        rw [hf] at hg
        dsimp only at hg ⊢
        by_cases hth : (fnd l t).isSome = true
        · cases ha : al x.name t with
          | false =>
            rw [if_pos ⟨hth, rfl⟩]
            exact (Rename_twice s t hf hth ha h1 hx hx2 (by omega) he.tab).mono fun e w' ⟨h4, h5⟩ => ⟨h4, hst h5⟩
          | true =>
            rw [ha, if_neg (fun h => by cases h.2)] at hg
            rw [if_neg (fun h => by cases h.2)]
            exact (Rename_same s t hf w0 he.tabs he.below he.le he.base (by omega) hth ha h1 hx hx2 (by omega) he.tab).mono fun e w' ⟨h4, h5⟩ => ⟨h4, h1.moved he.base h5 (by omega) hg⟩
        · rw [if_neg (fun h => hth h.1)] at hg ⊢
          exact (Rename_new s t hf w0 he.tabs he.below he.le he.base (by omega) (by simpa using hth) h1 hx hx2 (by omega) he.tab).mono fun e w' ⟨h4, h5⟩ => ⟨h4, h1.moved he.base h5 (by omega) hg⟩
    · rw [if_neg (fun h => by rw [e2] at h; cases h.2)]
      rcases hx2 with rfl | ⟨hx2, hv⟩
      · exact (Rename_e2 s hx.ne h1 he.tab).mono fun e w' ⟨h4, h5⟩ => ⟨h4, hst h5⟩
      · exact (Rename_f2 s t hx.ne hx2 hs ht hx.ok hv h1 he.tab).mono fun e w' ⟨h4, h5⟩ => ⟨h4, hst h5⟩
  · rw [if_neg (fun h => by rw [e] at h; cases h.1)]
    rcases hx with rfl | ⟨hx, hv⟩
    · exact (Rename_e1 t h1 he.tab).mono fun e w' ⟨h4, h5⟩ => ⟨h4, hst h5⟩
    · by_cases hte : t = ⟨#[]⟩
      · subst hte
        exact (Rename_e2 s hx h1 he.tab).mono fun e w' ⟨h4, h5⟩ => ⟨h4, hst h5⟩
      · exact (Rename_f1 s t hx hte hs hv h1 he.tab).mono fun e w' ⟨h4, h5⟩ => ⟨h4, hst h5⟩
theorem DList (h : DP w base D M n l) (hn : n ≤ 900) (he : Env w0 w base) (p a : ByteArray) (most : Int) (hp : p.size ≤ 1048576) (ha : a.size ≤ 1048576) :
    Calls Tryd.prog 12 #[.pointer (some ⟨D, 0, none⟩), .string p, .string a, .int .i64 most] w fun e w' => LDone w l p a most e w' := by
  obtain ⟨vN, q, h1, h2, h3⟩ := h
  exact List_calls p a most hp ha h1 (by omega) he.tab
theorem DLen (h : DP w base D M n l) :
    Calls Tryd.prog 15 #[.pointer (some ⟨D, 0, none⟩)] w fun e w' => e = .returned (.int .i64 (l.length : Int)) ∧ w' = w := by
  obtain ⟨vN, q, h1, h2, h3⟩ := h
  exact Len_calls h1
/-- Behind a call on the document's. -/
def StR (w : World) (base R : Nat) (l' : List Ent) (w' : World) : Prop := (∃ vL', RefD w' base R l' vL') ∧ FrR w w' R
theorem RefD.still (h : RefD w base R l vL) (hb : Below w.heap.size w w') : StR w base R l w' := ⟨⟨vL, h.below hb⟩, FrR.of_below hb R⟩
theorem StR.of (hs : StepR w base R l w') : StR w base R l w' := by
  obtain ⟨v, h1, h2⟩ := hs
  exact ⟨⟨v, h1⟩, h2⟩
theorem RFind (h : RefD w base R l vL) (g : GL n l) (hn : n ≤ 900) (s : ByteArray) (hs : s.size ≤ 1048576) :
    Calls Tryd.prog 42 #[.pointer (some ⟨R, 0, none⟩), .string s] w fun e w' => e = .returned (.tuple #[.int .i64 (fiN l s), .string (fiO l s), .int .i64 (fiE l s)]) ∧ Below w.heap.size w w' := by
  have hl := g.len
  unfold fiN fiO fiE
  rcases okT_cases s hs with ⟨e, hx⟩ | ⟨e, hx⟩
  · rw [if_pos e, if_pos e, if_pos e]
    exact Rfind_calls s h g.rise g.sz hx (by omega)
  · rw [if_neg (by rw [e]; decide), if_neg (by rw [e]; decide), if_neg (by rw [e]; decide)]
    rcases hx with rfl | ⟨hx, hv⟩
    · exact Rfind_empty _
    · exact Rfind_form _ s hx hv hs
theorem RAdd (h : RefD w base R l vL) (g : GL n l) (hn : n ≤ 900) (hbs : base ≤ w.heap.size) (s : ByteArray) (k : Int) (hs : s.size ≤ 1048576) :
    Calls Tryd.prog 39 #[.pointer (some ⟨R, 0, none⟩), .string s, .int .i64 k] w fun e w' => e = .returned (.int .i64 (addR l s k).2) ∧ StR w base R (addR l s k).1 w' := by
  have hl := g.len
  unfold addR
  rcases okT_cases s hs with ⟨e, hx⟩ | ⟨e, hx⟩
  · rw [if_pos e]
    by_cases hf : (fnd l s).isSome = true
    · rw [if_pos hf]
      obtain ⟨x, hx2⟩ := Option.isSome_iff_exists.1 hf
      exact (Radd_twice s k h g.rise g.sz hx (by omega) hx2).mono fun e w' ⟨h4, h5⟩ => ⟨h4, h.still h5⟩
    · rw [if_neg hf]
      exact (Radd_calls s k h g.rise g.sz hx (by omega) hbs (isSome_none hf)).mono fun e w' ⟨h4, h5⟩ => ⟨h4, StR.of h5⟩
  · rw [if_neg (by rw [e]; decide)]
    rcases hx with rfl | ⟨hx, hv⟩
    · exact (Radd_empty _ k).mono fun e w' ⟨h4, h5⟩ => ⟨h4, h.still h5⟩
    · exact (Radd_form _ s k hx hv hs).mono fun e w' ⟨h4, h5⟩ => ⟨h4, h.still h5⟩
theorem RRemove (h : RefD w base R l vL) (g : GL n l) (hn : n ≤ 900) (hbs : base ≤ w.heap.size) (s : ByteArray) (hs : s.size ≤ 1048576) :
    Calls Tryd.prog 40 #[.pointer (some ⟨R, 0, none⟩), .string s] w fun e w' => e = .returned (.int .i64 (remR l s).2) ∧ StR w base R (remR l s).1 w' := by
  have hl := g.len
  unfold remR
  rcases okT_cases s hs with ⟨e, hx⟩ | ⟨e, hx⟩
  · rw [if_pos e]
    by_cases hf : (fnd l s).isSome = true
    · rw [if_pos hf]
      obtain ⟨x, hx2⟩ := Option.isSome_iff_exists.1 hf
      exact (Rremove_calls s h g.rise g.sz hx (by omega) hbs hx2).mono fun e w' ⟨h4, h5⟩ => ⟨h4, StR.of h5⟩
    · rw [if_neg hf]
      exact (Rremove_none s h g.rise g.sz hx (by omega) (isSome_none hf)).mono fun e w' ⟨h4, h5⟩ => ⟨h4, h.still h5⟩
  · rw [if_neg (by rw [e]; decide)]
    rcases hx with rfl | ⟨hx, hv⟩
    · exact (Rremove_empty _).mono fun e w' ⟨h4, h5⟩ => ⟨h4, h.still h5⟩
    · exact (Rremove_form _ s hx hv hs).mono fun e w' ⟨h4, h5⟩ => ⟨h4, h.still h5⟩
theorem RRename (h : RefD w base R l vL) (g : GL n l) (hn : n ≤ 900) (hbs : base ≤ w.heap.size) (s t : ByteArray) (hs : s.size ≤ 1048576) (ht : t.size ≤ 1048576) :
    Calls Tryd.prog 41 #[.pointer (some ⟨R, 0, none⟩), .string s, .string t] w fun e w' => e = .returned (.int .i64 (renR l s t).2) ∧ StR w base R (renR l s t).1 w' := by
  have hl := g.len
  unfold renR
  rcases okT_cases s hs with ⟨e, hx⟩ | ⟨e, hx⟩
  · rcases okT_cases t ht with ⟨e2, hx2⟩ | ⟨e2, hx2⟩
    · rw [if_pos ⟨e, e2⟩]
      cases hf : fnd l s with
      | none => exact (Rrename_none s t h g.rise g.sz hx hx2 (by omega) hf).mono fun e w' ⟨h4, h5⟩ => ⟨h4, h.still h5⟩
      | some x =>
        dsimp only
        by_cases hth : (fnd l t).isSome = true
        · cases ha : al x.name t with
          | false =>
            rw [if_pos ⟨hth, rfl⟩]
            exact (Rrename_twice s t h g.rise g.sz hx hx2 (by omega) hf hth ha).mono fun e w' ⟨h4, h5⟩ => ⟨h4, h.still h5⟩
          | true =>
            rw [if_neg (fun h => by cases h.2)]
            exact (Rrename_same s t h g.rise g.sz hx hx2 (by omega) hbs hf hth ha).mono fun e w' ⟨h4, h5⟩ => ⟨h4, StR.of h5⟩
        · rw [if_neg (fun h => hth h.1)]
          exact (Rrename_new s t h g.rise g.sz hx hx2 (by omega) hbs hf (isSome_none hth)).mono fun e w' ⟨h4, h5⟩ => ⟨h4, StR.of h5⟩
    · rw [if_neg (fun h => by rw [e2] at h; cases h.2)]
      rcases hx2 with rfl | ⟨hx2, hv⟩
      · exact (Rrename_e2 _ s hx.ne).mono fun e w' ⟨h4, h5⟩ => ⟨h4, h.still h5⟩
      · exact (Rrename_f2 _ s t hx.ne hx2 hs ht hx.ok hv).mono fun e w' ⟨h4, h5⟩ => ⟨h4, h.still h5⟩
  · rw [if_neg (fun h => by rw [e] at h; cases h.1)]
    rcases hx with rfl | ⟨hx, hv⟩
    · exact (Rrename_e1 _ t).mono fun e w' ⟨h4, h5⟩ => ⟨h4, h.still h5⟩
    · by_cases hte : t = ⟨#[]⟩
      · subst hte
        exact (Rrename_e2 _ s hx).mono fun e w' ⟨h4, h5⟩ => ⟨h4, h.still h5⟩
      · exact (Rrename_f1 _ s t hx hte hs hv).mono fun e w' ⟨h4, h5⟩ => ⟨h4, h.still h5⟩
theorem RList (h : RefD w base R l vL) (g : GL n l) (hn : n ≤ 900) (p a : ByteArray) (most : Int) (hp : p.size ≤ 1048576) (ha : a.size ≤ 1048576) :
    Calls Tryd.prog 13 #[.pointer (some ⟨R, 0, none⟩), .string p, .string a, .int .i64 most] w fun e w' => LDone w l p a most e w' := by
  have hl := g.len
  exact Rlist_calls p a most hp ha h g.sz (by omega)
end
end Go.Proofs.YtkdjkndnilmjmaaDoor.U
/- dir: an act, done to both. -/
set_option linter.unusedVariables false
set_option linter.unusedSimpArgs false
namespace Go.Proofs.YtkdjkndnilmjmaaDoor.U
open Go.RowKit Go.Proofs Go.Lib Go.Proofs.YtkdjkndnilmjmaaDoorW.PrintWords

section
variable {w w' w0 w1 : World} {base D M R n q : Nat} {l : List Ent} {vN vL : Value}
/-- Both, of one list. -/
def PX (w : World) (base D M R n : Nat) (l : List Ent) : Prop := DP w base D M n l ∧ ∃ vL, RefD w base R l vL
theorem PX.below (h : PX w base D M R n l) (hb : Below w.heap.size w w') : PX w' base D M R n l := ⟨h.1.below hb, by
  obtain ⟨v, hv⟩ := h.2
  exact ⟨v, hv.below hb⟩⟩
theorem PX.mono {m : Nat} (h : PX w base D M R n l) (hm : n ≤ m) : PX w base D M R m l := ⟨h.1.mono hm, h.2⟩
/-- Behind an act. -/
def ActP (w : World) (base D M R n : Nat) (w' : World) : Prop := ∃ l, PX w' base D M R n l ∧ Below base w w'
theorem DP.frr (h : DP w base D M n l) {l' : List Ent} (hr : RefD w base R l' vL) (hf : FrR w w' R) : DP w' base D M n l := by
  obtain ⟨vN, q, h1, h2⟩ := h
  refine ⟨vN, q, ?_, h2⟩
  obtain ⟨Dt, hm, h3⟩ := h1.map
  have hM : M ≠ R := fun e => by
    subst e
    obtain ⟨es, clock, h4, _⟩ := hm
    rw [hr.head] at h4
    cases h4
  refine ⟨?_, own_stay h1.row fun k e => ?_, ⟨Dt, map_stay hm (hf.block M hm.lt hM), h3⟩, h1.rise, h1.text, h1.bD, h1.bM⟩
  · rw [hf.block D h1.lt (ne_block h1.head hr.head (by decide))]
    exact h1.head
  · obtain ⟨cs, hc⟩ := own_type h1.row k e
    exact hf.block k (Array.getElem?_eq_some_iff.1 hc).1 (ne_block hc hr.head (by decide))
theorem FrR.belowB (h : FrR w w' R) (hR : base ≤ R) (hb : base ≤ w.heap.size) : Below base w w' := ⟨h.os, h.tape, h.output, h.size, fun k hk => h.block k (by omega) (by omega)⟩
theorem FrR.cells (h : FrR w w' R) (hr : RefD w base R l vL) {k : Nat} {cs : Array Value} {t : TypeId} {fz : Nat × Nat} (hh : w.heap[k]? = some (.cells cs t fz)) (ht : t ≠ 53) : w'.heap[k]? = some (.cells cs t fz) := by
  rw [h.block k (Array.getElem?_eq_some_iff.1 hh).1 (ne_block hh hr.head ht)]
  exact hh
set_option maxHeartbeats 16000000 in
set_option maxRecDepth 1000000 in
theorem act_add (h : PX w base D M R n l) (hn : n ≤ 800) (he : Env w0 w base) (s t : ByteArray) (k : Int) (hs : s.size ≤ 1048576) (ht : t.size ≤ 1048576) (hk : (Lit.int .i64 k).wf = true) :
    Calls Tryd.prog 24 #[.pointer (some ⟨D, 0, none⟩), .pointer (some ⟨R, 0, none⟩), .agg #[.int .i64 1, .string s, .string t, .int .i64 k]] w fun e w' => e = .returned (.bool true) ∧ ActP w base D M R (n + 1) w' := by
  have hba : Below w.heap.size w (w.alloc (.cells #[.int .i64 1, .string s, .string t, .int .i64 k] 56)) := (Below.refl _ _).alloc (Nat.le_refl _) _
  have hX := heap_alloc_new w (.cells #[.int .i64 1, .string s, .string t, .int .i64 k] 56)
  obtain ⟨wa, hwa⟩ : ∃ wa, w.alloc (.cells #[.int .i64 1, .string s, .string t, .int .i64 k] 56) = wa := ⟨_, rfl⟩
  rw [hwa] at hba hX
  have q0 : wa.cell? ⟨w.heap.size, 0, none⟩ = some (.int .i64 1) := by rw [Lib.cell_of_heap hX]; rfl
  have hXs : w.heap.size < wa.heap.size := (Array.getElem?_eq_some_iff.1 hX).1
  have hp := h.below hba
  have hea := he.on hba
  have HBA := Lib.hid hba
  have hd := below_drew1 (Below.refl wa.heap.size wa)
  have hXd : wa.drew.heap[w.heap.size]? = some (.cells #[.int .i64 1, .string s, .string t, .int .i64 k] 56 (0, 0)) := hX
  have hS0 : wa.drew.cell? ⟨w.heap.size, 1, none⟩ = some (.string s) ∧ wa.drew.cell? ⟨w.heap.size, 3, none⟩ = some (.int .i64 k) := ⟨by rw [Lib.cell_of_heap (w := wa.drew) hXd]; rfl, by rw [Lib.cell_of_heap (w := wa.drew) hXd]; rfl⟩
  have hpd := hp.below hd
  have hed := hea.on hd
  have C1 := Lib.hid (DAdd hpd.1 (by omega) hed s k hs hk)
  have HP := Lib.hid hpd
  have HE := Lib.hid hed
  have HG := Lib.hid hpd.1.good
  have HBASE := Lib.hid he.base
  clear h hp hba hpd hed he hea
  go_enter Tryd.func24, Tryd.ntmps24
  go_wp2_with fail
  clear hwa
  refine AnyL.start (fun w' => w'.cell? ⟨w.heap.size, 1, none⟩ = some (.string s) ∧ w'.cell? ⟨w.heap.size, 3, none⟩ = some (.int .i64 k)) 99 (by kernel_rfl) hS0 (fun hHeld => ?_)
  refine AnyL.take (i := 0) (v := ?vy0) rfl (by kernel_rfl) (by kernel_rfl) (by kernel_rfl) (by kernel_rfl) (fun _ _ _ h => h) (by assumption) (Or.inl ⟨by rfl, ?y0⟩) ?ry0
  case y0 => (intro w hSw; (try dsimp only at hSw); go_simp; try with_reducible rfl)
  try simp only [Act.put, List.setIfInBounds_toArray, List.set_cons_zero, List.set_cons_succ]
  refine AnyL.take (i := 1) (v := ?vy1) rfl (by kernel_rfl) (by kernel_rfl) (by kernel_rfl) (by kernel_rfl) (fun _ _ _ h => h) (by assumption) (Or.inl ⟨by rfl, ?y1⟩) ?ry1
  case y1 => (intro w hSw; (try dsimp only at hSw); go_simp; try with_reducible rfl)
  try simp only [Act.put, List.setIfInBounds_toArray, List.set_cons_zero, List.set_cons_succ]
  refine AnyL.take (i := 2) (v := ?vy2) rfl (by kernel_rfl) (by kernel_rfl) (by kernel_rfl) (by kernel_rfl) (fun _ _ _ h => h) (by assumption) (Or.inl ⟨by rfl, ?y2⟩) ?ry2
  case y2 => (intro w hSw; (try dsimp only at hSw); go_simp; try with_reducible rfl)
  try simp only [Act.put, List.setIfInBounds_toArray, List.set_cons_zero, List.set_cons_succ]
  refine AnyL.take (i := 3) (v := ?vy3) rfl (by kernel_rfl) (by kernel_rfl) (by kernel_rfl) (by kernel_rfl) (fun _ _ _ h => h) (by assumption) (Or.inl ⟨by rfl, ?y3⟩) ?ry3
  case y3 => (intro w hSw; (try dsimp only at hSw); go_simp; try with_reducible rfl)
  try simp only [Act.put, List.setIfInBounds_toArray, List.set_cons_zero, List.set_cons_succ]
  refine AnyL.take (i := 4) (v := ?vy4) rfl (by kernel_rfl) (by kernel_rfl) (by kernel_rfl) (by kernel_rfl) (fun _ _ _ h => h) (by assumption) (Or.inl ⟨by rfl, ?y4⟩) ?ry4
  case y4 => (intro w hSw; (try dsimp only at hSw); go_simp; try with_reducible rfl)
  try simp only [Act.put, List.setIfInBounds_toArray, List.set_cons_zero, List.set_cons_succ]
  refine AnyL.take (i := 6) (v := ?vy6) rfl (by kernel_rfl) (by kernel_rfl) (by kernel_rfl) (by kernel_rfl) (fun _ _ _ h => h) (by assumption) (Or.inl ⟨by rfl, ?y6⟩) ?ry6
  case y6 => (intro w hSw; (try dsimp only at hSw); go_simp; try with_reducible rfl)
  try simp only [Act.put, List.setIfInBounds_toArray, List.set_cons_zero, List.set_cons_succ]
  refine AnyL.take (i := 7) (v := ?vy7) rfl (by kernel_rfl) (by kernel_rfl) (by kernel_rfl) (by kernel_rfl) (fun _ _ _ h => h) (by assumption) (Or.inl ⟨by rfl, ?y7⟩) ?ry7
  case y7 => (intro w hSw; (try dsimp only at hSw); go_simp; try with_reducible rfl)
  try simp only [Act.put, List.setIfInBounds_toArray, List.set_cons_zero, List.set_cons_succ]
  refine AnyL.take (i := 8) (v := ?vy8) rfl (by kernel_rfl) (by kernel_rfl) (by kernel_rfl) (by kernel_rfl) (fun _ _ _ h => h) (by assumption) (Or.inl ⟨by rfl, ?y8⟩) ?ry8
  case y8 => (intro w hSw; (try dsimp only at hSw); go_simp; try with_reducible rfl)
  try simp only [Act.put, List.setIfInBounds_toArray, List.set_cons_zero, List.set_cons_succ]
  refine AnyL.take (i := 9) (v := ?vy9) rfl (by kernel_rfl) (by kernel_rfl) (by kernel_rfl) (by kernel_rfl) (fun _ _ _ h => h) (by assumption) (Or.inl ⟨by rfl, ?y9⟩) ?ry9
  case y9 => (intro w hSw; (try dsimp only at hSw); go_simp; try with_reducible rfl)
  try simp only [Act.put, List.setIfInBounds_toArray, List.set_cons_zero, List.set_cons_succ]
  refine AnyL.take (i := 10) (v := ?vy10) rfl (by kernel_rfl) (by kernel_rfl) (by kernel_rfl) (by kernel_rfl) (fun _ _ _ h => h) (by assumption) (Or.inl ⟨by rfl, ?y10⟩) ?ry10
  case y10 => (intro w hSw; (try dsimp only at hSw); go_simp; try with_reducible rfl)
  try simp only [Act.put, List.setIfInBounds_toArray, List.set_cons_zero, List.set_cons_succ]
  refine AnyL.one (i := 5) (by kernel_rfl) rfl (fun K hK => ?_)
  go_simp
  refine (C1.out).mono ?_
  rintro e w5 ⟨rfl, hd5, hk5, hb5⟩
  have hX5 : w5.heap[w.heap.size]? = some (.cells #[.int .i64 1, .string s, .string t, .int .i64 k] 56 (0, 0)) := hk5 _ _ _ _ hXd (by decide) (by decide)
  have hS5 : w5.cell? ⟨w.heap.size, 1, none⟩ = some (.string s) ∧ w5.cell? ⟨w.heap.size, 3, none⟩ = some (.int .i64 k) := ⟨by rw [Lib.cell_of_heap (w := w5) hX5]; rfl, by rw [Lib.cell_of_heap (w := w5) hX5]; rfl⟩
  refine hK.out _ _ (.inr hS5) ?_
  clear hHeld hK K
  have hHeld := hS5
  try simp only [Act.put, List.setIfInBounds_toArray, List.set_cons_zero, List.set_cons_succ]
  obtain ⟨v5, hr5⟩ := HP.out.2
  have hr5' := hr5.kp hk5
  have he5 := HE.out.step hb5
  have C2 := Lib.hid (RAdd hr5' HG.out (by omega) he5.base s k hs)
  refine AnyL.one (i := 11) (by kernel_rfl) rfl (fun K hK => ?_)
  go_simp
  refine (C2.out).mono ?_
  rintro e w7 ⟨rfl, ⟨v7, hr7⟩, hf7⟩
  have hX7 : w7.heap[w.heap.size]? = some (.cells #[.int .i64 1, .string s, .string t, .int .i64 k] 56 (0, 0)) := hf7.cells hr5' hX5 (by decide)
  have hS7 : w7.cell? ⟨w.heap.size, 1, none⟩ = some (.string s) ∧ w7.cell? ⟨w.heap.size, 3, none⟩ = some (.int .i64 k) := ⟨by rw [Lib.cell_of_heap (w := w7) hX7]; rfl, by rw [Lib.cell_of_heap (w := w7) hX7]; rfl⟩
  refine hK.out _ _ (.inr hS7) ?_
  clear hHeld hK K
  have hHeld := hS7
  try simp only [Act.put, List.setIfInBounds_toArray, List.set_cons_zero, List.set_cons_succ]
  have HFIN : Hid (ActP w base D M R (n + 1) w7) := Lib.hid ⟨(addR l s k).1, ⟨hd5.frr hr5' hf7, v7, hr7⟩, ((HBA.out.mono HBASE.out).trans ((below_drew1 (Below.refl base wa)).trans hb5)).trans (hf7.belowB hr5.bR he5.base)⟩
  clear C1 C2 hd5 hk5 hb5 hr5 hr5' he5 hr7 hf7 hX5 hX7 hS5 hS0 hXd
  refine AnyL.take (i := 12) (v := ?vz12) rfl (by kernel_rfl) (by kernel_rfl) (by kernel_rfl) (by kernel_rfl) (fun _ _ _ h => h) (by assumption) (Or.inl ⟨by rfl, ?z12⟩) ?rz12
  case z12 => (intro w hSw; (try dsimp only at hSw); go_simp; try with_reducible rfl)
  try simp only [Act.put, List.setIfInBounds_toArray, List.set_cons_zero, List.set_cons_succ]
  refine AnyL.take (i := 13) (v := ?vz13) rfl (by kernel_rfl) (by kernel_rfl) (by kernel_rfl) (by kernel_rfl) (fun _ _ _ h => h) (by assumption) (Or.inl ⟨by rfl, ?z13⟩) ?rz13
  case z13 => (intro w hSw; (try dsimp only at hSw); go_simp; try with_reducible rfl)
  try simp only [Act.put, List.setIfInBounds_toArray, List.set_cons_zero, List.set_cons_succ]
  refine AnyL.done (by kernel_rfl) ?_ _
  clear hHeld hS7
  go_wp2_with fail
  go_ret
  exact ⟨rfl, HFIN.out⟩
set_option maxHeartbeats 16000000 in
set_option maxRecDepth 1000000 in
theorem act_remove (h : PX w base D M R n l) (hn : n ≤ 800) (he : Env w0 w base) (s t : ByteArray) (k : Int) (hs : s.size ≤ 1048576) (ht : t.size ≤ 1048576) (hk : (Lit.int .i64 k).wf = true) :
    Calls Tryd.prog 24 #[.pointer (some ⟨D, 0, none⟩), .pointer (some ⟨R, 0, none⟩), .agg #[.int .i64 2, .string s, .string t, .int .i64 k]] w fun e w' => e = .returned (.bool true) ∧ ActP w base D M R (n + 1) w' := by
  have hba : Below w.heap.size w (w.alloc (.cells #[.int .i64 2, .string s, .string t, .int .i64 k] 56)) := (Below.refl _ _).alloc (Nat.le_refl _) _
  have hX := heap_alloc_new w (.cells #[.int .i64 2, .string s, .string t, .int .i64 k] 56)
  obtain ⟨wa, hwa⟩ : ∃ wa, w.alloc (.cells #[.int .i64 2, .string s, .string t, .int .i64 k] 56) = wa := ⟨_, rfl⟩
  rw [hwa] at hba hX
  have q0 : wa.cell? ⟨w.heap.size, 0, none⟩ = some (.int .i64 2) := by rw [Lib.cell_of_heap hX]; rfl
  have hXs : w.heap.size < wa.heap.size := (Array.getElem?_eq_some_iff.1 hX).1
  have hp := h.below hba
  have hea := he.on hba
  have HBA := Lib.hid hba
  have hd := below_drew1 (Below.refl wa.heap.size wa)
  have hXd : wa.drew.heap[w.heap.size]? = some (.cells #[.int .i64 2, .string s, .string t, .int .i64 k] 56 (0, 0)) := hX
  have hS0 : wa.drew.cell? ⟨w.heap.size, 1, none⟩ = some (.string s) := by rw [Lib.cell_of_heap (w := wa.drew) hXd]; rfl
  have hpd := hp.below hd
  have hed := hea.on hd
  have C1 := Lib.hid (DRemove hpd.1 (by omega) hed s hs)
  have HP := Lib.hid hpd
  have HE := Lib.hid hed
  have HG := Lib.hid hpd.1.good
  have HBASE := Lib.hid he.base
  clear h hp hba hpd hed he hea
  go_enter Tryd.func24, Tryd.ntmps24
  go_wp2_with fail
  clear hwa
  refine AnyL.start (fun w' => w'.cell? ⟨w.heap.size, 1, none⟩ = some (.string s)) 99 (by kernel_rfl) hS0 (fun hHeld => ?_)
  refine AnyL.take (i := 0) (v := ?vy0) rfl (by kernel_rfl) (by kernel_rfl) (by kernel_rfl) (by kernel_rfl) (fun _ _ _ h => h) (by assumption) (Or.inl ⟨by rfl, ?y0⟩) ?ry0
  case y0 => (intro w hSw; (try dsimp only at hSw); go_simp; try with_reducible rfl)
  try simp only [Act.put, List.setIfInBounds_toArray, List.set_cons_zero, List.set_cons_succ]
  refine AnyL.take (i := 1) (v := ?vy1) rfl (by kernel_rfl) (by kernel_rfl) (by kernel_rfl) (by kernel_rfl) (fun _ _ _ h => h) (by assumption) (Or.inl ⟨by rfl, ?y1⟩) ?ry1
  case y1 => (intro w hSw; (try dsimp only at hSw); go_simp; try with_reducible rfl)
  try simp only [Act.put, List.setIfInBounds_toArray, List.set_cons_zero, List.set_cons_succ]
  refine AnyL.take (i := 2) (v := ?vy2) rfl (by kernel_rfl) (by kernel_rfl) (by kernel_rfl) (by kernel_rfl) (fun _ _ _ h => h) (by assumption) (Or.inl ⟨by rfl, ?y2⟩) ?ry2
  case y2 => (intro w hSw; (try dsimp only at hSw); go_simp; try with_reducible rfl)
  try simp only [Act.put, List.setIfInBounds_toArray, List.set_cons_zero, List.set_cons_succ]
  refine AnyL.take (i := 4) (v := ?vy4) rfl (by kernel_rfl) (by kernel_rfl) (by kernel_rfl) (by kernel_rfl) (fun _ _ _ h => h) (by assumption) (Or.inl ⟨by rfl, ?y4⟩) ?ry4
  case y4 => (intro w hSw; (try dsimp only at hSw); go_simp; try with_reducible rfl)
  try simp only [Act.put, List.setIfInBounds_toArray, List.set_cons_zero, List.set_cons_succ]
  refine AnyL.take (i := 5) (v := ?vy5) rfl (by kernel_rfl) (by kernel_rfl) (by kernel_rfl) (by kernel_rfl) (fun _ _ _ h => h) (by assumption) (Or.inl ⟨by rfl, ?y5⟩) ?ry5
  case y5 => (intro w hSw; (try dsimp only at hSw); go_simp; try with_reducible rfl)
  try simp only [Act.put, List.setIfInBounds_toArray, List.set_cons_zero, List.set_cons_succ]
  refine AnyL.take (i := 6) (v := ?vy6) rfl (by kernel_rfl) (by kernel_rfl) (by kernel_rfl) (by kernel_rfl) (fun _ _ _ h => h) (by assumption) (Or.inl ⟨by rfl, ?y6⟩) ?ry6
  case y6 => (intro w hSw; (try dsimp only at hSw); go_simp; try with_reducible rfl)
  try simp only [Act.put, List.setIfInBounds_toArray, List.set_cons_zero, List.set_cons_succ]
  refine AnyL.one (i := 3) (by kernel_rfl) rfl (fun K hK => ?_)
  go_simp
  refine (C1.out).mono ?_
  rintro e w5 ⟨rfl, hd5, hk5, hb5⟩
  have hX5 : w5.heap[w.heap.size]? = some (.cells #[.int .i64 2, .string s, .string t, .int .i64 k] 56 (0, 0)) := hk5 _ _ _ _ hXd (by decide) (by decide)
  have hS5 : w5.cell? ⟨w.heap.size, 1, none⟩ = some (.string s) := by rw [Lib.cell_of_heap (w := w5) hX5]; rfl
  refine hK.out _ _ (.inr hS5) ?_
  clear hHeld hK K
  have hHeld := hS5
  try simp only [Act.put, List.setIfInBounds_toArray, List.set_cons_zero, List.set_cons_succ]
  obtain ⟨v5, hr5⟩ := HP.out.2
  have hr5' := hr5.kp hk5
  have he5 := HE.out.step hb5
  have C2 := Lib.hid (RRemove hr5' HG.out (by omega) he5.base s hs)
  refine AnyL.one (i := 7) (by kernel_rfl) rfl (fun K hK => ?_)
  go_simp
  refine (C2.out).mono ?_
  rintro e w7 ⟨rfl, ⟨v7, hr7⟩, hf7⟩
  have hX7 : w7.heap[w.heap.size]? = some (.cells #[.int .i64 2, .string s, .string t, .int .i64 k] 56 (0, 0)) := hf7.cells hr5' hX5 (by decide)
  have hS7 : w7.cell? ⟨w.heap.size, 1, none⟩ = some (.string s) := by rw [Lib.cell_of_heap (w := w7) hX7]; rfl
  refine hK.out _ _ (.inr hS7) ?_
  clear hHeld hK K
  have hHeld := hS7
  try simp only [Act.put, List.setIfInBounds_toArray, List.set_cons_zero, List.set_cons_succ]
  have HFIN : Hid (ActP w base D M R (n + 1) w7) := Lib.hid ⟨(remR l s).1, ⟨hd5.frr hr5' hf7, v7, hr7⟩, ((HBA.out.mono HBASE.out).trans ((below_drew1 (Below.refl base wa)).trans hb5)).trans (hf7.belowB hr5.bR he5.base)⟩
  clear C1 C2 hd5 hk5 hb5 hr5 hr5' he5 hr7 hf7 hX5 hX7 hS5 hS0 hXd
  refine AnyL.take (i := 8) (v := ?vz8) rfl (by kernel_rfl) (by kernel_rfl) (by kernel_rfl) (by kernel_rfl) (fun _ _ _ h => h) (by assumption) (Or.inl ⟨by rfl, ?z8⟩) ?rz8
  case z8 => (intro w hSw; (try dsimp only at hSw); go_simp; try with_reducible rfl)
  try simp only [Act.put, List.setIfInBounds_toArray, List.set_cons_zero, List.set_cons_succ]
  refine AnyL.take (i := 9) (v := ?vz9) rfl (by kernel_rfl) (by kernel_rfl) (by kernel_rfl) (by kernel_rfl) (fun _ _ _ h => h) (by assumption) (Or.inl ⟨by rfl, ?z9⟩) ?rz9
  case z9 => (intro w hSw; (try dsimp only at hSw); go_simp; try with_reducible rfl)
  try simp only [Act.put, List.setIfInBounds_toArray, List.set_cons_zero, List.set_cons_succ]
  refine AnyL.done (by kernel_rfl) ?_ _
  clear hHeld hS7
  go_wp2_with fail
  go_ret
  exact ⟨rfl, HFIN.out⟩
set_option maxHeartbeats 16000000 in
set_option maxRecDepth 1000000 in
theorem act_rename (h : PX w base D M R n l) (hn : n ≤ 800) (he : Env w0 w base) (s t : ByteArray) (k : Int) (hs : s.size ≤ 1048576) (ht : t.size ≤ 1048576) (hk : (Lit.int .i64 k).wf = true) :
    Calls Tryd.prog 24 #[.pointer (some ⟨D, 0, none⟩), .pointer (some ⟨R, 0, none⟩), .agg #[.int .i64 3, .string s, .string t, .int .i64 k]] w fun e w' => e = .returned (.bool true) ∧ ActP w base D M R (n + 1) w' := by
  have hba : Below w.heap.size w (w.alloc (.cells #[.int .i64 3, .string s, .string t, .int .i64 k] 56)) := (Below.refl _ _).alloc (Nat.le_refl _) _
  have hX := heap_alloc_new w (.cells #[.int .i64 3, .string s, .string t, .int .i64 k] 56)
  obtain ⟨wa, hwa⟩ : ∃ wa, w.alloc (.cells #[.int .i64 3, .string s, .string t, .int .i64 k] 56) = wa := ⟨_, rfl⟩
  rw [hwa] at hba hX
  have q0 : wa.cell? ⟨w.heap.size, 0, none⟩ = some (.int .i64 3) := by rw [Lib.cell_of_heap hX]; rfl
  have hXs : w.heap.size < wa.heap.size := (Array.getElem?_eq_some_iff.1 hX).1
  have hp := h.below hba
  have hea := he.on hba
  have HBA := Lib.hid hba
  have hd := below_drew1 (Below.refl wa.heap.size wa)
  have hXd : wa.drew.heap[w.heap.size]? = some (.cells #[.int .i64 3, .string s, .string t, .int .i64 k] 56 (0, 0)) := hX
  have hS0 : wa.drew.cell? ⟨w.heap.size, 1, none⟩ = some (.string s) ∧ wa.drew.cell? ⟨w.heap.size, 2, none⟩ = some (.string t) := ⟨by rw [Lib.cell_of_heap (w := wa.drew) hXd]; rfl, by rw [Lib.cell_of_heap (w := wa.drew) hXd]; rfl⟩
  have hpd := hp.below hd
  have hed := hea.on hd
  have C1 := Lib.hid (DRename hpd.1 (by omega) hed s t hs ht)
  have HP := Lib.hid hpd
  have HE := Lib.hid hed
  have HG := Lib.hid hpd.1.good
  have HBASE := Lib.hid he.base
  clear h hp hba hpd hed he hea
  go_enter Tryd.func24, Tryd.ntmps24
  go_wp2_with fail
  clear hwa
  refine AnyL.start (fun w' => w'.cell? ⟨w.heap.size, 1, none⟩ = some (.string s) ∧ w'.cell? ⟨w.heap.size, 2, none⟩ = some (.string t)) 99 (by kernel_rfl) hS0 (fun hHeld => ?_)
  refine AnyL.take (i := 0) (v := ?vy0) rfl (by kernel_rfl) (by kernel_rfl) (by kernel_rfl) (by kernel_rfl) (fun _ _ _ h => h) (by assumption) (Or.inl ⟨by rfl, ?y0⟩) ?ry0
  case y0 => (intro w hSw; (try dsimp only at hSw); go_simp; try with_reducible rfl)
  try simp only [Act.put, List.setIfInBounds_toArray, List.set_cons_zero, List.set_cons_succ]
  refine AnyL.take (i := 1) (v := ?vy1) rfl (by kernel_rfl) (by kernel_rfl) (by kernel_rfl) (by kernel_rfl) (fun _ _ _ h => h) (by assumption) (Or.inl ⟨by rfl, ?y1⟩) ?ry1
  case y1 => (intro w hSw; (try dsimp only at hSw); go_simp; try with_reducible rfl)
  try simp only [Act.put, List.setIfInBounds_toArray, List.set_cons_zero, List.set_cons_succ]
  refine AnyL.take (i := 2) (v := ?vy2) rfl (by kernel_rfl) (by kernel_rfl) (by kernel_rfl) (by kernel_rfl) (fun _ _ _ h => h) (by assumption) (Or.inl ⟨by rfl, ?y2⟩) ?ry2
  case y2 => (intro w hSw; (try dsimp only at hSw); go_simp; try with_reducible rfl)
  try simp only [Act.put, List.setIfInBounds_toArray, List.set_cons_zero, List.set_cons_succ]
  refine AnyL.take (i := 3) (v := ?vy3) rfl (by kernel_rfl) (by kernel_rfl) (by kernel_rfl) (by kernel_rfl) (fun _ _ _ h => h) (by assumption) (Or.inl ⟨by rfl, ?y3⟩) ?ry3
  case y3 => (intro w hSw; (try dsimp only at hSw); go_simp; try with_reducible rfl)
  try simp only [Act.put, List.setIfInBounds_toArray, List.set_cons_zero, List.set_cons_succ]
  refine AnyL.take (i := 4) (v := ?vy4) rfl (by kernel_rfl) (by kernel_rfl) (by kernel_rfl) (by kernel_rfl) (fun _ _ _ h => h) (by assumption) (Or.inl ⟨by rfl, ?y4⟩) ?ry4
  case y4 => (intro w hSw; (try dsimp only at hSw); go_simp; try with_reducible rfl)
  try simp only [Act.put, List.setIfInBounds_toArray, List.set_cons_zero, List.set_cons_succ]
  refine AnyL.take (i := 6) (v := ?vy6) rfl (by kernel_rfl) (by kernel_rfl) (by kernel_rfl) (by kernel_rfl) (fun _ _ _ h => h) (by assumption) (Or.inl ⟨by rfl, ?y6⟩) ?ry6
  case y6 => (intro w hSw; (try dsimp only at hSw); go_simp; try with_reducible rfl)
  try simp only [Act.put, List.setIfInBounds_toArray, List.set_cons_zero, List.set_cons_succ]
  refine AnyL.take (i := 7) (v := ?vy7) rfl (by kernel_rfl) (by kernel_rfl) (by kernel_rfl) (by kernel_rfl) (fun _ _ _ h => h) (by assumption) (Or.inl ⟨by rfl, ?y7⟩) ?ry7
  case y7 => (intro w hSw; (try dsimp only at hSw); go_simp; try with_reducible rfl)
  try simp only [Act.put, List.setIfInBounds_toArray, List.set_cons_zero, List.set_cons_succ]
  refine AnyL.take (i := 8) (v := ?vy8) rfl (by kernel_rfl) (by kernel_rfl) (by kernel_rfl) (by kernel_rfl) (fun _ _ _ h => h) (by assumption) (Or.inl ⟨by rfl, ?y8⟩) ?ry8
  case y8 => (intro w hSw; (try dsimp only at hSw); go_simp; try with_reducible rfl)
  try simp only [Act.put, List.setIfInBounds_toArray, List.set_cons_zero, List.set_cons_succ]
  refine AnyL.take (i := 9) (v := ?vy9) rfl (by kernel_rfl) (by kernel_rfl) (by kernel_rfl) (by kernel_rfl) (fun _ _ _ h => h) (by assumption) (Or.inl ⟨by rfl, ?y9⟩) ?ry9
  case y9 => (intro w hSw; (try dsimp only at hSw); go_simp; try with_reducible rfl)
  try simp only [Act.put, List.setIfInBounds_toArray, List.set_cons_zero, List.set_cons_succ]
  refine AnyL.take (i := 10) (v := ?vy10) rfl (by kernel_rfl) (by kernel_rfl) (by kernel_rfl) (by kernel_rfl) (fun _ _ _ h => h) (by assumption) (Or.inl ⟨by rfl, ?y10⟩) ?ry10
  case y10 => (intro w hSw; (try dsimp only at hSw); go_simp; try with_reducible rfl)
  try simp only [Act.put, List.setIfInBounds_toArray, List.set_cons_zero, List.set_cons_succ]
  refine AnyL.one (i := 5) (by kernel_rfl) rfl (fun K hK => ?_)
  go_simp
  refine (C1.out).mono ?_
  rintro e w5 ⟨rfl, hd5, hk5, hb5⟩
  have hX5 : w5.heap[w.heap.size]? = some (.cells #[.int .i64 3, .string s, .string t, .int .i64 k] 56 (0, 0)) := hk5 _ _ _ _ hXd (by decide) (by decide)
  have hS5 : w5.cell? ⟨w.heap.size, 1, none⟩ = some (.string s) ∧ w5.cell? ⟨w.heap.size, 2, none⟩ = some (.string t) := ⟨by rw [Lib.cell_of_heap (w := w5) hX5]; rfl, by rw [Lib.cell_of_heap (w := w5) hX5]; rfl⟩
  refine hK.out _ _ (.inr hS5) ?_
  clear hHeld hK K
  have hHeld := hS5
  try simp only [Act.put, List.setIfInBounds_toArray, List.set_cons_zero, List.set_cons_succ]
  obtain ⟨v5, hr5⟩ := HP.out.2
  have hr5' := hr5.kp hk5
  have he5 := HE.out.step hb5
  have C2 := Lib.hid (RRename hr5' HG.out (by omega) he5.base s t hs ht)
  refine AnyL.one (i := 11) (by kernel_rfl) rfl (fun K hK => ?_)
  go_simp
  refine (C2.out).mono ?_
  rintro e w7 ⟨rfl, ⟨v7, hr7⟩, hf7⟩
  have hX7 : w7.heap[w.heap.size]? = some (.cells #[.int .i64 3, .string s, .string t, .int .i64 k] 56 (0, 0)) := hf7.cells hr5' hX5 (by decide)
  have hS7 : w7.cell? ⟨w.heap.size, 1, none⟩ = some (.string s) ∧ w7.cell? ⟨w.heap.size, 2, none⟩ = some (.string t) := ⟨by rw [Lib.cell_of_heap (w := w7) hX7]; rfl, by rw [Lib.cell_of_heap (w := w7) hX7]; rfl⟩
  refine hK.out _ _ (.inr hS7) ?_
  clear hHeld hK K
  have hHeld := hS7
  try simp only [Act.put, List.setIfInBounds_toArray, List.set_cons_zero, List.set_cons_succ]
  have HFIN : Hid (ActP w base D M R (n + 1) w7) := Lib.hid ⟨(renR l s t).1, ⟨hd5.frr hr5' hf7, v7, hr7⟩, ((HBA.out.mono HBASE.out).trans ((below_drew1 (Below.refl base wa)).trans hb5)).trans (hf7.belowB hr5.bR he5.base)⟩
  clear C1 C2 hd5 hk5 hb5 hr5 hr5' he5 hr7 hf7 hX5 hX7 hS5 hS0 hXd
  refine AnyL.take (i := 12) (v := ?vz12) rfl (by kernel_rfl) (by kernel_rfl) (by kernel_rfl) (by kernel_rfl) (fun _ _ _ h => h) (by assumption) (Or.inl ⟨by rfl, ?z12⟩) ?rz12
  case z12 => (intro w hSw; (try dsimp only at hSw); go_simp; try with_reducible rfl)
  try simp only [Act.put, List.setIfInBounds_toArray, List.set_cons_zero, List.set_cons_succ]
  refine AnyL.take (i := 13) (v := ?vz13) rfl (by kernel_rfl) (by kernel_rfl) (by kernel_rfl) (by kernel_rfl) (fun _ _ _ h => h) (by assumption) (Or.inl ⟨by rfl, ?z13⟩) ?rz13
  case z13 => (intro w hSw; (try dsimp only at hSw); go_simp; try with_reducible rfl)
  try simp only [Act.put, List.setIfInBounds_toArray, List.set_cons_zero, List.set_cons_succ]
  refine AnyL.done (by kernel_rfl) ?_ _
  clear hHeld hS7
  go_wp2_with fail
  go_ret
  exact ⟨rfl, HFIN.out⟩
set_option maxHeartbeats 16000000 in
set_option maxRecDepth 1000000 in
theorem act_find (h : PX w base D M R n l) (hn : n ≤ 800) (he : Env w0 w base) (s t : ByteArray) (k : Int) (hs : s.size ≤ 1048576) (ht : t.size ≤ 1048576) (hk : (Lit.int .i64 k).wf = true) :
    Calls Tryd.prog 24 #[.pointer (some ⟨D, 0, none⟩), .pointer (some ⟨R, 0, none⟩), .agg #[.int .i64 4, .string s, .string t, .int .i64 k]] w fun e w' => e = .returned (.bool true) ∧ ActP w base D M R (n + 1) w' := by
  have hba : Below w.heap.size w (w.alloc (.cells #[.int .i64 4, .string s, .string t, .int .i64 k] 56)) := (Below.refl _ _).alloc (Nat.le_refl _) _
  have hX := heap_alloc_new w (.cells #[.int .i64 4, .string s, .string t, .int .i64 k] 56)
  obtain ⟨wa, hwa⟩ : ∃ wa, w.alloc (.cells #[.int .i64 4, .string s, .string t, .int .i64 k] 56) = wa := ⟨_, rfl⟩
  rw [hwa] at hba hX
  have q0 : wa.cell? ⟨w.heap.size, 0, none⟩ = some (.int .i64 4) := by rw [Lib.cell_of_heap hX]; rfl
  have hXs : w.heap.size < wa.heap.size := (Array.getElem?_eq_some_iff.1 hX).1
  have hp := h.below hba
  have hea := he.on hba
  have HBA := Lib.hid hba
  have q1 : wa.cell? ⟨w.heap.size, 1, none⟩ = some (.string s) := by rw [Lib.cell_of_heap hX]; rfl
  have C1 := Lib.hid (DFind hp.1 (by omega) hea s hs)
  obtain ⟨v5, hr5⟩ := hp.2
  have C2 := Lib.hid (fun W (hW : Below wa.heap.size wa W) => RFind (hr5.below hW) hp.1.good (by omega) s hs)
  have HQ := Lib.hid (fun W (hW : Below wa.heap.size wa W) => (show W.cell? ⟨w.heap.size, 1, none⟩ = some (.string s) from (hW.cell (p := ⟨w.heap.size, 1, none⟩) hXs).trans q1))
  have HP := Lib.hid hp
  have HBASE := Lib.hid he.base
  obtain ⟨rn, hrn⟩ : ∃ r, fiN l s = r := ⟨_, rfl⟩
  obtain ⟨ro, hro⟩ : ∃ r, fiO l s = r := ⟨_, rfl⟩
  obtain ⟨re, hre⟩ : ∃ r, fiE l s = r := ⟨_, rfl⟩
  rw [hrn, hro, hre] at C1
  rw [hrn, hro, hre] at C2
  clear h hp hba hea he hr5 hrn hro hre hX
  go_enter Tryd.func24, Tryd.ntmps24
  go_wp2_with fail
  refine (C1.out).mono ?_
  rintro e w5 ⟨rfl, hb5⟩
  have HB5 := Lib.hid hb5
  have q2 := HQ.out _ hb5
  clear hb5 C1
  go_wp2_with fail
  refine (C2.out _ HB5.out).mono ?_
  rintro e w6 ⟨rfl, hb6⟩
  have hb56 := HB5.out.trans (hb6.mono HB5.out.size)
  have HFIN : Hid (ActP w base D M R (n + 1) w6) := Lib.hid ⟨l, (HP.out.below hb56).mono (Nat.le_succ _), (HBA.out.trans (hb56.mono HBA.out.size)).mono HBASE.out⟩
  clear hb6 hb56 C2 q2
  go_wp2
  go_ret
  exact ⟨by simp, HFIN.out⟩
set_option maxHeartbeats 16000000 in
set_option maxRecDepth 1000000 in
theorem act_other (h : PX w base D M R n l) (hn : n ≤ 800) (he : Env w0 w base) (s t : ByteArray) (k : Int) (hs : s.size ≤ 1048576) (ht : t.size ≤ 1048576) (hk : (Lit.int .i64 k).wf = true) (d : Int) (h1 : d ≠ 1) (h2 : d ≠ 2) (h3 : d ≠ 3) (h4 : d ≠ 4) :
    Calls Tryd.prog 24 #[.pointer (some ⟨D, 0, none⟩), .pointer (some ⟨R, 0, none⟩), .agg #[.int .i64 d, .string s, .string t, .int .i64 k]] w fun e w' => e = .returned (.bool true) ∧ ActP w base D M R (n + 1) w' := by
  have hba : Below w.heap.size w (w.alloc (.cells #[.int .i64 d, .string s, .string t, .int .i64 k] 56)) := (Below.refl _ _).alloc (Nat.le_refl _) _
  have hX := heap_alloc_new w (.cells #[.int .i64 d, .string s, .string t, .int .i64 k] 56)
  obtain ⟨wa, hwa⟩ : ∃ wa, w.alloc (.cells #[.int .i64 d, .string s, .string t, .int .i64 k] 56) = wa := ⟨_, rfl⟩
  rw [hwa] at hba hX
  have q0 : wa.cell? ⟨w.heap.size, 0, none⟩ = some (.int .i64 d) := by rw [Lib.cell_of_heap hX]; rfl
  have hXs : w.heap.size < wa.heap.size := (Array.getElem?_eq_some_iff.1 hX).1
  have hp := h.below hba
  have hea := he.on hba
  have HBA := Lib.hid hba
  have HFIN : Hid (ActP w base D M R (n + 1) wa) := Lib.hid ⟨l, hp.mono (Nat.le_succ _), hba.mono he.base⟩
  have d1 : (d == 1) = false := by simpa using h1
  have d2 : (d == 2) = false := by simpa using h2
  have d3 : (d == 3) = false := by simpa using h3
  have d4 : (d == 4) = false := by simpa using h4
  clear h hp hba hea he hX
  go_enter Tryd.func24, Tryd.ntmps24
  go_wp2
  go_ret
  exact ⟨rfl, HFIN.out⟩
theorem act_calls (h : PX w base D M R n l) (hn : n ≤ 800) (he : Env w0 w base) (s t : ByteArray) (k : Int) (hs : s.size ≤ 1048576) (ht : t.size ≤ 1048576) (hk : (Lit.int .i64 k).wf = true) (d : Int) :
    Calls Tryd.prog 24 #[.pointer (some ⟨D, 0, none⟩), .pointer (some ⟨R, 0, none⟩), .agg #[.int .i64 d, .string s, .string t, .int .i64 k]] w fun e w' => e = .returned (.bool true) ∧ ActP w base D M R (n + 1) w' := by
  by_cases h1 : d = 1
  · subst h1; exact act_add h hn he s t k hs ht hk
  · by_cases h2 : d = 2
    · subst h2; exact act_remove h hn he s t k hs ht hk
    · by_cases h3 : d = 3
      · subst h3; exact act_rename h hn he s t k hs ht hk
      · by_cases h4 : d = 4
        · subst h4; exact act_find h hn he s t k hs ht hk
        · exact act_other h hn he s t k hs ht hk d h1 h2 h3 h4
end
end Go.Proofs.YtkdjkndnilmjmaaDoor.U
/- dir: acts, the first 60, on both. -/
set_option linter.unusedVariables false
set_option linter.unusedSimpArgs false
namespace Go.Proofs.YtkdjkndnilmjmaaDoor.U
open Go.RowKit Go.Proofs Go.Lib Go.Proofs.YtkdjkndnilmjmaaDoorW.PrintWords

/-- A narrower condition from here on. -/
theorem AnyL.narrow {P : Program} {ops : Array Oper} {Q : Exit → Act → World → Prop} {md : Region.Mode} {S : World → Prop} {z : Nat} (S' : World → Prop) (hS : ∀ w, S' w → S w) : ∀ {fuel : Nat} {listed : Array Bool} {a : Act} {w : World}, AnyL P md ops Q S' z fuel listed a w → AnyL P md ops Q S z fuel listed a w
  | 0, _, _, _, h => h
  | fuel + 1, _, _, _, h => ⟨h.1, fun i hi => wpOp_mono (fun a' w' h' => ⟨h'.1.imp id (hS w'), AnyL.narrow S' hS h'.2⟩) (h.2 i hi)⟩
structure ActV where
  d : Int
  s : ByteArray
  t : ByteArray
  k : Int
/-- A row of acts that is read. -/
def AR (w : World) (A : Option Addr) (l : List ActV) : Prop :=
  0 < l.length → ∃ g o, A = some ⟨g, o, none⟩ ∧ g < w.heap.size ∧ ∀ j a, l[j]? = some a →
    w.cell? ⟨g, o + j * 4, none⟩ = some (.int .i64 a.d) ∧ w.cell? ⟨g, o + j * 4 + 1, none⟩ = some (.string a.s) ∧ w.cell? ⟨g, o + j * 4 + 2, none⟩ = some (.string a.t) ∧ w.cell? ⟨g, o + j * 4 + 3, none⟩ = some (.int .i64 a.k)
/-- What the acts are. -/
def AOk (l : List ActV) : Prop := ∀ a ∈ l, a.s.size ≤ 1048576 ∧ a.t.size ≤ 1048576 ∧ (Lit.int .i64 a.k).wf = true
/-- Behind played: both, of one list, and nothing else has changed. -/
def PlP (w : World) (D R : Nat) (w' : World) : Prop := ∃ M l, PX w' w.heap.size D M R 60 l ∧ Env w w' w.heap.size
set_option maxHeartbeats 16000000 in
set_option maxRecDepth 1000000 in
theorem played_calls (A : Option Addr) (c : Nat) (l : List ActV) (w : World) (h : AR w A l) (hl : l.length ≤ 4611686018427387904) (hz : AOk l) (hT : Tabs w) :
    Calls Tryd.prog 10 #[.slice A l.length c] w fun e w' => ∃ D R, e = .returned (.tuple #[.pointer (some ⟨D, 0, none⟩), .pointer (some ⟨R, 0, none⟩), .bool true]) ∧ PlP w D R w' := by
  have C1 := Lib.hid (New_calls w)
  generalize hn : l.length = n at *
  have HN := Lib.hid hn
  have HAR := Lib.hid h
  have HZ := Lib.hid hz
  have HT := Lib.hid hT
  clear h hn hz hT
  go_enter Tryd.func10, Tryd.ntmps10
  go_wp2_with fail
  refine (C1.out).mono ?_
  rintro e w1 ⟨rfl, hd1, hb1⟩
  have hbr : Below w1.heap.size w1 (w1.alloc (.cells #[.slice none 0 0] 53)) := (Below.refl _ _).alloc (Nat.le_refl _) _
  have hrh := heap_alloc_new w1 (.cells #[.slice none 0 0] 53)
  have hst : PX (w1.alloc (.cells #[.slice none 0 0] 53)) w.heap.size (w.heap.size + 1) w.heap.size w1.heap.size 0 [] :=
    ⟨⟨_, 0, hd1.below hbr, Nat.le_refl _, Nat.le_refl _⟩, .slice none 0 0, hrh, World.ownsRow_nil _ _ _ _, hb1.size⟩
  have HST := Lib.hid hst
  have HB := Lib.hid (hb1.trans (hbr.mono hb1.size))
  obtain ⟨D, hD⟩ : ∃ D, w.heap.size + 1 = D := ⟨_, rfl⟩
  obtain ⟨R, hR⟩ : ∃ R, w1.heap.size = R := ⟨_, rfl⟩
  rw [hD, hR] at HST
  rw [hD]
  have HR := Lib.hid hR
  clear hd1 hb1 hbr hrh hst C1
  go_wp2_with fail
  clear hR hD
  go_loopg [7] n (fun g v7 wr => ∃ i : Nat, v7 = .int .i64 (i : Int) ∧ i + g = n ∧ i ≤ 60 ∧ (∃ l, PX wr w.heap.size D w.heap.size R i l) ∧ Below w.heap.size w wr)
  case atStart => exact ⟨0, rfl, Nat.zero_add _, Nat.zero_le _, ⟨_, HST.out⟩, HB.out⟩
  case round =>
    obtain ⟨i, rfl, hig, hi60, ⟨L, hpx⟩, hbw⟩ := hrel
    have HPX := Lib.hid hpx
    have HBW := Lib.hid hbw
    have HIG := Lib.hid hig
    clear hpx hbw HST HB
    by_cases hgo : i < n ∧ i < 60
    · obtain ⟨hin, hi6⟩ := hgo
      have d1 : decide ((i : Int) < (n : Int)) = true := by simp; omega
      have d2 : decide ((i : Int) < 60) = true := by simp; omega
      have i1 : (i : Int) < (n : Int) := by omega
      obtain ⟨g, o, rfl, hg, hcell⟩ := HAR.out (by rw [HN.out]; omega)
      obtain ⟨a, ha⟩ : ∃ a, l[i]? = some a := ⟨_, List.getElem?_eq_getElem (by rw [HN.out]; exact hin)⟩
      obtain ⟨r1, r2, r3, r4⟩ := hcell i a ha
      obtain ⟨z1, z2, z3⟩ := HZ.out a (List.mem_of_getElem? ha)
      have hbd := HBW.out.trans ((below_drew1 (Below.refl wr.heap.size wr)).mono HBW.out.size)
      have hKS : ∀ w', Below w.heap.size w w' → w'.cell? ⟨g, o + i * 4, none⟩ = some (.int .i64 a.d) ∧ w'.cell? ⟨g, o + i * 4 + 1, none⟩ = some (.string a.s) ∧ w'.cell? ⟨g, o + i * 4 + 2, none⟩ = some (.string a.t) ∧ w'.cell? ⟨g, o + i * 4 + 3, none⟩ = some (.int .i64 a.k) := fun w' hb =>
        ⟨(hb.cell (p := ⟨g, o + i * 4, none⟩) hg).trans r1, (hb.cell (p := ⟨g, o + i * 4 + 1, none⟩) hg).trans r2, (hb.cell (p := ⟨g, o + i * 4 + 2, none⟩) hg).trans r3, (hb.cell (p := ⟨g, o + i * 4 + 3, none⟩) hg).trans r4⟩
      have KS := Lib.hid hKS
      have hS0 := hKS _ hbd
      have hed : Env w wr.drew w.heap.size := ⟨HT.out, Nat.le_refl _, hbd, hbd.size⟩
      have CA := Lib.hid (act_calls (HPX.out.below (below_drew1 (Below.refl wr.heap.size wr))) (by omega) hed a.s a.t a.k z1 z2 z3 a.d)
      have HBD := Lib.hid hbd
      clear ha hcell r1 r2 r3 r4 z1 z2 z3 hg hig hbd hKS hed
      go_wp2_with fail
      refine AnyL.start (fun w' => w'.cell? ⟨g, o + i * 4, none⟩ = some (.int .i64 a.d) ∧ w'.cell? ⟨g, o + i * 4 + 1, none⟩ = some (.string a.s) ∧ w'.cell? ⟨g, o + i * 4 + 2, none⟩ = some (.string a.t) ∧ w'.cell? ⟨g, o + i * 4 + 3, none⟩ = some (.int .i64 a.k)) 99 (by kernel_rfl) hS0 (fun hHeld => ?_)
      refine AnyL.take (i := 0) (v := ?vy0) rfl (by kernel_rfl) (by kernel_rfl) (by kernel_rfl) (by kernel_rfl) (fun _ _ _ h => h) (by assumption) (Or.inl ⟨by rfl, ?y0⟩) ?ry0
      case y0 => (intro w hSw; (try dsimp only at hSw); go_simp; try with_reducible rfl)
      try simp only [Act.put, List.setIfInBounds_toArray, List.set_cons_zero, List.set_cons_succ]
      refine AnyL.take (i := 1) (v := ?vy1) rfl (by kernel_rfl) (by kernel_rfl) (by kernel_rfl) (by kernel_rfl) (fun _ _ _ h => h) (by assumption) (Or.inl ⟨by rfl, ?y1⟩) ?ry1
      case y1 => (intro w hSw; (try dsimp only at hSw); go_simp; try with_reducible rfl)
      try simp only [Act.put, List.setIfInBounds_toArray, List.set_cons_zero, List.set_cons_succ]
      refine AnyL.take (i := 2) (v := ?vy2) rfl (by kernel_rfl) (by kernel_rfl) (by kernel_rfl) (by kernel_rfl) (fun _ _ _ h => h) (by assumption) (Or.inl ⟨by rfl, ?y2⟩) ?ry2
      case y2 => (intro w hSw; (try dsimp only at hSw); go_simp; try with_reducible rfl)
      try simp only [Act.put, List.setIfInBounds_toArray, List.set_cons_zero, List.set_cons_succ]
      refine AnyL.take (i := 3) (v := ?vy3) rfl (by kernel_rfl) (by kernel_rfl) (by kernel_rfl) (by kernel_rfl) (fun _ _ _ h => h) (by assumption) (Or.inl ⟨by rfl, ?y3⟩) ?ry3
      case y3 => (intro w hSw; (try dsimp only at hSw); go_simp; try with_reducible rfl)
      try simp only [Act.put, List.setIfInBounds_toArray, List.set_cons_zero, List.set_cons_succ]
      refine AnyL.take (i := 4) (v := ?vy4) rfl (by kernel_rfl) (by kernel_rfl) (by kernel_rfl) (by kernel_rfl) (fun _ _ _ h => h) (by assumption) (Or.inl ⟨by rfl, ?y4⟩) ?ry4
      case y4 => (intro w hSw; (try dsimp only at hSw); go_simp; try with_reducible rfl)
      try simp only [Act.put, List.setIfInBounds_toArray, List.set_cons_zero, List.set_cons_succ]
      refine AnyL.take (i := 5) (v := ?vy5) rfl (by kernel_rfl) (by kernel_rfl) (by kernel_rfl) (by kernel_rfl) (fun _ _ _ h => h) (by assumption) (Or.inl ⟨by rfl, ?y5⟩) ?ry5
      case y5 => (intro w hSw; (try dsimp only at hSw); go_simp; try with_reducible rfl)
      try simp only [Act.put, List.setIfInBounds_toArray, List.set_cons_zero, List.set_cons_succ]
      refine AnyL.one (i := 6) (by kernel_rfl) rfl (fun K hK => ?_)
      go_simp
      refine (CA.out).mono ?_
      rintro e w5 ⟨rfl, L5, hp5, hb5⟩
      have hb05 := HBD.out.trans hb5
      refine hK.out _ _ (.inr (KS.out _ hb05)) ?_
      clear hHeld hK K
      obtain ⟨v5, hr5⟩ := hp5.2
      obtain ⟨A5, c5, rfl, _⟩ := own_form hr5.row
      have CL := Lib.hid (DLen hp5.1)
      obtain ⟨m5, hm5⟩ : ∃ m5, L5.length = m5 := ⟨_, rfl⟩
      have q5 := hr5.c0
      rw [hm5] at CL q5
      have hHeld := And.intro (KS.out _ hb05) q5
      refine AnyL.narrow (fun w' => (w'.cell? ⟨g, o + i * 4, none⟩ = some (.int .i64 a.d) ∧ w'.cell? ⟨g, o + i * 4 + 1, none⟩ = some (.string a.s) ∧ w'.cell? ⟨g, o + i * 4 + 2, none⟩ = some (.string a.t) ∧ w'.cell? ⟨g, o + i * 4 + 3, none⟩ = some (.int .i64 a.k)) ∧ w'.cell? ⟨R, 0, none⟩ = some (.slice A5 m5 c5)) (fun _ h => h.1) ?_
      try simp only [Act.put, List.setIfInBounds_toArray, List.set_cons_zero, List.set_cons_succ]
      have HP5 := Lib.hid hp5
      have HB05 := Lib.hid hb05
      clear hp5 hb5 hb05 hr5 hm5 q5 KS CA hS0
      refine AnyL.take (i := 7) (v := ?vy7) rfl (by kernel_rfl) (by kernel_rfl) (by kernel_rfl) (by kernel_rfl) (fun _ _ _ h => h) (by assumption) (Or.inl ⟨by rfl, ?y7⟩) ?ry7
      case y7 => (intro w hSw; (try dsimp only at hSw); go_simp; try with_reducible rfl)
      try simp only [Act.put, List.setIfInBounds_toArray, List.set_cons_zero, List.set_cons_succ]
      refine AnyL.take (i := 8) (v := ?vy8) rfl (by kernel_rfl) (by kernel_rfl) (by kernel_rfl) (by kernel_rfl) (fun _ _ _ h => h) (by assumption) (Or.inl ⟨by rfl, ?y8⟩) ?ry8
      case y8 => (intro w hSw; (try dsimp only at hSw); go_simp; try with_reducible rfl)
      try simp only [Act.put, List.setIfInBounds_toArray, List.set_cons_zero, List.set_cons_succ]
      refine AnyL.take (i := 9) (v := ?vy9) rfl (by kernel_rfl) (by kernel_rfl) (by kernel_rfl) (by kernel_rfl) (fun _ _ _ h => h) (by assumption) (Or.inl ⟨by rfl, ?y9⟩) ?ry9
      case y9 => (intro w hSw; (try dsimp only at hSw); go_simp; try with_reducible rfl)
      try simp only [Act.put, List.setIfInBounds_toArray, List.set_cons_zero, List.set_cons_succ]
      refine AnyL.take (i := 11) (v := ?vy11) rfl (by kernel_rfl) (by kernel_rfl) (by kernel_rfl) (by kernel_rfl) (fun _ _ _ h => h) (by assumption) (Or.inl ⟨by rfl, ?y11⟩) ?ry11
      case y11 => (intro w hSw; (try dsimp only at hSw); go_simp; try with_reducible rfl)
      try simp only [Act.put, List.setIfInBounds_toArray, List.set_cons_zero, List.set_cons_succ]
      refine AnyL.take (i := 12) (v := ?vy12) rfl (by kernel_rfl) (by kernel_rfl) (by kernel_rfl) (by kernel_rfl) (fun _ _ _ h => h) (by assumption) (Or.inl ⟨by rfl, ?y12⟩) ?ry12
      case y12 => (intro w hSw; (try dsimp only at hSw); go_simp; try with_reducible rfl)
      try simp only [Act.put, List.setIfInBounds_toArray, List.set_cons_zero, List.set_cons_succ]
      refine AnyL.take (i := 13) (v := ?vy13) rfl (by kernel_rfl) (by kernel_rfl) (by kernel_rfl) (by kernel_rfl) (fun _ _ _ h => h) (by assumption) (Or.inl ⟨by rfl, ?y13⟩) ?ry13
      case y13 => (intro w hSw; (try dsimp only at hSw); go_simp; try with_reducible rfl)
      try simp only [Act.put, List.setIfInBounds_toArray, List.set_cons_zero, List.set_cons_succ]
      refine AnyL.take (i := 14) (v := ?vy14) rfl (by kernel_rfl) (by kernel_rfl) (by kernel_rfl) (by kernel_rfl) (fun _ _ _ h => h) (by assumption) (Or.inl ⟨by rfl, ?y14⟩) ?ry14
      case y14 => (intro w hSw; (try dsimp only at hSw); go_simp; try with_reducible rfl)
      try simp only [Act.put, List.setIfInBounds_toArray, List.set_cons_zero, List.set_cons_succ]
      refine AnyL.take (i := 15) (v := ?vy15) rfl (by kernel_rfl) (by kernel_rfl) (by kernel_rfl) (by kernel_rfl) (fun _ _ _ h => h) (by assumption) (Or.inl ⟨by rfl, ?y15⟩) ?ry15
      case y15 => (intro w hSw; (try dsimp only at hSw); go_simp; try with_reducible rfl)
      try simp only [Act.put, List.setIfInBounds_toArray, List.set_cons_zero, List.set_cons_succ]
      refine AnyL.one (i := 10) (by kernel_rfl) rfl (fun K hK => ?_)
      go_simp
      refine (CL.out).mono ?_
      rintro e w6 ⟨rfl, rfl⟩
      refine hK.out _ _ (.inr hHeld) ?_
      clear hK K
      try simp only [Act.put, List.setIfInBounds_toArray, List.set_cons_zero, List.set_cons_succ]
      refine AnyL.take (i := 16) (v := ?vz16) rfl (by kernel_rfl) (by kernel_rfl) (by kernel_rfl) (by kernel_rfl) (fun _ _ _ h => h) (by assumption) (Or.inl ⟨by rfl, ?z16⟩) ?rz16
      case z16 => (intro w hSw; (try dsimp only at hSw); go_simp; try with_reducible rfl)
      try simp only [Act.put, List.setIfInBounds_toArray, List.set_cons_zero, List.set_cons_succ]
      refine AnyL.take (i := 17) (v := ?vz17) rfl (by kernel_rfl) (by kernel_rfl) (by kernel_rfl) (by kernel_rfl) (fun _ _ _ h => h) (by assumption) (Or.inl ⟨by rfl, ?z17⟩) ?rz17
      case z17 => (intro w hSw; (try dsimp only at hSw); go_simp; try with_reducible rfl)
      try simp only [Act.put, List.setIfInBounds_toArray, List.set_cons_zero, List.set_cons_succ]
      refine AnyL.done (by kernel_rfl) ?_ _
      clear hHeld CL
      go_wp2_with fail
      go_roundg (gk - 1)
      case measure => have := HIG.out; omega
      case rel => exact ⟨i + 1, by rw [Int.natCast_succ], by have := HIG.out; omega, by omega, ⟨_, HP5.out⟩, HB05.out⟩
    · have HFIN : Hid (PlP w D R wr) := Lib.hid ⟨_, _, HPX.out.mono hi60, HT.out, Nat.le_refl _, HBW.out, HBW.out.size⟩
      by_cases hin : i < n
      · have d1 : decide ((i : Int) < (n : Int)) = true := by simp; omega
        have d2 : decide ((i : Int) < 60) = false := by simp; omega
        go_wp2_with fail
        go_ret3
        exact ⟨D, R, rfl, HFIN.out⟩
      · have d1 : decide ((i : Int) < (n : Int)) = false := by simp; omega
        go_wp2_with fail
        go_ret3
        exact ⟨D, R, rfl, HFIN.out⟩
end Go.Proofs.YtkdjkndnilmjmaaDoor.U
/- dir: rows of texts, compared. -/
set_option linter.unusedVariables false
set_option linter.unusedSimpArgs false
namespace Go.Proofs.YtkdjkndnilmjmaaDoor.U
open Go.RowKit Go.Proofs Go.Lib Go.Proofs.YtkdjkndnilmjmaaDoorW.PrintWords Go.Proofs.YtkdjkndnilmjmaaDoor.PR

theorem rdOf_nat (xs : List ByteArray) (i : Nat) : rdOf ByteArray.empty xs (i : Int) = xs.getD i ByteArray.empty := by
  unfold rdOf
  rw [Int.toNat_natCast]
def mkB (l : List UInt8) : ByteArray := ⟨l.toArray⟩
theorem mkB_of (x : ByteArray) : mkB x.data.toList = x := by
  apply ByteArray.ext
  apply Array.toList_inj.1
  rfl
theorem getD_at {xs : List ByteArray} {j : Nat} (h : j < xs.length) : xs[j]? = some (xs.getD j ByteArray.empty) := by rw [List.getD_eq_getElem?_getD, List.getElem?_eq_getElem h]; rfl
/-- A row of strings that is read. -/
def TR (w : World) (A : Option Addr) (c : Nat) (xs : List ByteArray) : Prop :=
  xs.length ≤ c ∧ xs.length ≤ 9223372036854775807 ∧ (0 < xs.length → ∃ g o, A = some ⟨g, o, none⟩ ∧ g < w.heap.size ∧ ∀ j x, xs[j]? = some x → w.cell? ⟨g, o + j, none⟩ = some (.string x))
theorem TR.below {w w' : World} {A : Option Addr} {c : Nat} {xs : List ByteArray} (h : TR w A c xs) (hb : Below w.heap.size w w') : TR w' A c xs := by
  obtain ⟨h1, h2, h3⟩ := h
  refine ⟨h1, h2, fun h0 => ?_⟩
  obtain ⟨g, o, e, hg, hc⟩ := h3 h0
  exact ⟨g, o, e, Nat.lt_of_lt_of_le hg hb.size, fun j x hj => (hb.cell (p := ⟨g, o + j, none⟩) hg).trans (hc j x hj)⟩
theorem TR.C {w : World} {A : Option Addr} {c : Nat} {xs : List ByteArray} (h : TR w A c xs) : Kd.C Kd.string w A xs.length xs := by
  obtain ⟨h1, h2, h3⟩ := h
  refine Kd.C_of_reads (d := ByteArray.empty) (h1 := fun _ => rfl) ⟨rfl, by omega, fun h0 => ?_⟩
  obtain ⟨g, o, e, hg, hc⟩ := h3 h0
  refine ⟨_, e, fun j hj => ?_⟩
  have := hc j _ (getD_at hj)
  have e2 : (⟨g, o, none⟩ : Addr).add j = ⟨g, o + j, none⟩ := by
    unfold Addr.add
    split
    · rename_i h; subst h; rfl
    · rfl
  rw [e2]
  exact this
theorem texts_l0 (X Y : List ByteArray) (hl : X.length = Y.length) (hb : X.length ≤ 8000000000000000000) : ∀ (d k i : Nat), X.length - i ≤ d → i ≤ X.length → d + 1 ≤ k →
    refectoryref00_Texts.l0 k X Y i = some (decide (X.drop i = Y.drop i)) := by
  intro d
  induction d with
  | zero =>
    intro k i hd hi hk
    obtain ⟨k, rfl⟩ : ∃ m, k = m + 1 := ⟨k - 1, by omega⟩
    rw [refectoryref00_Texts.l0, if_neg (by omega), List.drop_eq_nil_of_le (by omega), List.drop_eq_nil_of_le (by omega)]
    rfl
  | succ d ih =>
    intro k i hd hi hk
    obtain ⟨k, rfl⟩ : ∃ m, k = m + 1 := ⟨k - 1, by omega⟩
    by_cases h : i < X.length
    · rw [refectoryref00_Texts.l0, if_pos (by omega), if_pos (by omega), if_pos (by omega), rdOf_nat, rdOf_nat, Lib.toList_data, Lib.toList_data]
      have e1 : X.drop i = X.getD i ByteArray.empty :: X.drop (i + 1) := by
        rw [List.drop_eq_getElem_cons h, List.getD_eq_getElem?_getD, List.getElem?_eq_getElem h]; rfl
      have e2 : Y.drop i = Y.getD i ByteArray.empty :: Y.drop (i + 1) := by
        rw [List.drop_eq_getElem_cons (show i < Y.length by omega), List.getD_eq_getElem?_getD, List.getElem?_eq_getElem (show i < Y.length by omega)]; rfl
      rw [e1, e2]
      generalize X.getD i ByteArray.empty = x
      generalize Y.getD i ByteArray.empty = y
      by_cases hxy : x = y
      · rw [if_pos (by rw [hxy]), w64i (by omega), ih k (i + 1) (by omega) (by omega) (by omega)]
        congr 1
        exact decide_eq_decide.2 ⟨fun e => by rw [e, hxy], fun e => by injection e⟩
      · rw [if_neg (fun e => hxy (by rw [← mkB_of x, ← mkB_of y, e]))]
        rw [decide_eq_false (fun e => hxy (by injection e))]
    · rw [refectoryref00_Texts.l0, if_neg (by omega), List.drop_eq_nil_of_le (by omega), List.drop_eq_nil_of_le (by omega)]
      rfl
theorem Texts_eq (X Y : List ByteArray) (hb : X.length ≤ 8000000000000000000) : refectoryref00_Texts.f (X.length + 1) X Y = some (decide (X = Y)) := by
  unfold refectoryref00_Texts.f
  by_cases h : X.length = Y.length
  · rw [if_pos (by omega)]
    have := texts_l0 X Y h hb X.length (X.length + 1) 0 (by omega) (by omega) (by omega)
    rw [show ((0 : Nat) : Int) = 0 from rfl, List.drop_zero, List.drop_zero] at this
    exact this
  · rw [if_neg (by omega), decide_eq_false (fun e => h (by rw [e]))]
theorem Texts_calls (A1 A2 : Option Addr) (c1 c2 : Nat) (X Y : List ByteArray) (w : World) (h1 : TR w A1 c1 X) (h2 : TR w A2 c2 Y) (hb : X.length ≤ 8000000000000000000) :
    Calls Tryd.prog 14 #[.slice A1 X.length c1, .slice A2 Y.length c2] w fun e w' => e = .returned (.bool (decide (X = Y))) ∧ Below w.heap.size w w' :=
  (refectoryref00_Texts.calls _ A1 c1 X A2 c2 Y _ w h1.C h1.1 h2.C h2.1 (Texts_eq X Y hb)).mono fun e w' ⟨he, hb⟩ => ⟨he, by first | exact hb | exact hb.below⟩
def nms (l : List Ent) : List ByteArray := l.map Ent.name
theorem nms_len (l : List Ent) : (nms l).length = l.length := by simp [nms]
/-- A row of the call's own is read. -/
theorem own_tr {w : World} {base n : Nat} {v : Value} {X : List ByteArray} (h : w.ownsRow base 9 1 v n (X.map Value.string)) (hn : X.length = n) : ∃ A c, v = .slice A n c ∧ TR w A c X := by
  subst hn
  obtain ⟨A, c, rfl, h1, h2⟩ := own_form h
  have hm : X.length ≤ 9223372036854775807 := by
    rcases h.2 with ⟨_, h0⟩ | ⟨g, cap, cur, e, _, _, hc, hcm, _⟩
    · omega
    · injection e with _ _ e3
      unfold maxLen at hcm
      omega
  refine ⟨A, c, rfl, h1, hm, fun h0 => ?_⟩
  rcases h2 with ⟨rfl, rfl⟩ | ⟨g, rfl, hg⟩
  · omega
  · refine ⟨g, 0, rfl, hg, fun j x hj => ?_⟩
    rw [Nat.zero_add, h.cellAt j (by have := (List.getElem?_eq_some_iff.1 hj).1; omega), List.getElem?_map, hj]
    rfl
theorem LDone.tr {w w' : World} {l : List Ent} {p a : ByteArray} {most : Int} {e : Ending} (h : LDone w l p a most e w') : ∃ A c, e = .returned (.tuple #[.slice A (nms (lnam l p a most)).length c, .bool (lmor l p a most), .int .i64 (lerr l p a most)]) ∧ TR w' A c (nms (lnam l p a most)) ∧ w'.ownsRow w.heap.size 9 1 (.slice A (nms (lnam l p a most)).length c) (nms (lnam l p a most)).length (strs (lnam l p a most)) ∧ Below w.heap.size w w' := by
  obtain ⟨v, e1, h1, h2⟩ := h
  have hs : strs (lnam l p a most) = (nms (lnam l p a most)).map Value.string := by simp [strs, nms]
  rw [← nms_len, hs] at h1
  obtain ⟨A, c, rfl, ht⟩ := own_tr h1 rfl
  exact ⟨A, c, e1, ht, by rw [hs]; exact h1, h2⟩
end Go.Proofs.YtkdjkndnilmjmaaDoor.U
/- dir: the document's own example. -/
set_option linter.unusedVariables false
set_option linter.unusedSimpArgs false
namespace Go.Proofs.YtkdjkndnilmjmaaDoor.U
open Go.RowKit Go.Proofs Go.Lib Go.Proofs.YtkdjkndnilmjmaaDoorW.PrintWords

def wb : ByteArray := ⟨#[98]⟩
def wA : ByteArray := ⟨#[65]⟩
def wa : ByteArray := ⟨#[97]⟩
def wB : ByteArray := ⟨#[66]⟩
def wst : ByteArray := ⟨#[42]⟩
theorem ex1 : addR [] wb 1 = ([⟨wb, 1⟩], 0) := by kernel_rfl
theorem ex2 : addR [⟨wb, 1⟩] wA 2 = ([⟨wA, 2⟩, ⟨wb, 1⟩], 0) := by kernel_rfl
theorem ex3 : addR [⟨wA, 2⟩, ⟨wb, 1⟩] wa 3 = ([⟨wA, 2⟩, ⟨wb, 1⟩], 8) := by kernel_rfl
theorem ex4 : fiN [⟨wA, 2⟩, ⟨wb, 1⟩] wB = 1 ∧ fiO [⟨wA, 2⟩, ⟨wb, 1⟩] wB = wb ∧ fiE [⟨wA, 2⟩, ⟨wb, 1⟩] wB = 0 := ⟨by kernel_rfl, by kernel_rfl, by kernel_rfl⟩
theorem ex5 : lnam [⟨wA, 2⟩, ⟨wb, 1⟩] wst ⟨#[]⟩ 9 = [⟨wA, 2⟩, ⟨wb, 1⟩] ∧ lmor [⟨wA, 2⟩, ⟨wb, 1⟩] wst ⟨#[]⟩ 9 = false ∧ lerr [⟨wA, 2⟩, ⟨wb, 1⟩] wst ⟨#[]⟩ 9 = 0 := ⟨by kernel_rfl, by kernel_rfl, by kernel_rfl⟩
set_option maxHeartbeats 16000000 in
set_option maxRecDepth 1000000 in
theorem works_calls (w : World) (hT : Tabs w) :
    Calls Tryd.prog 11 #[] w fun e w' => e = .returned (.bool true) ∧ Below w.heap.size w w' := by
  have C1 := Lib.hid (New_calls w)
  have HT := Lib.hid hT
  clear hT
  go_enter Tryd.func11, Tryd.ntmps11
  go_wp2_with fail
  refine (C1.out).mono ?_
  rintro e w1 ⟨rfl, hd1, hb1⟩
  obtain ⟨B, hB⟩ : ∃ B, w.heap.size = B := ⟨_, rfl⟩
  obtain ⟨D, hD⟩ : ∃ D, B + 1 = D := ⟨_, rfl⟩
  rw [hB] at hd1 hb1 ⊢
  rw [hD] at hd1 ⊢
  have hp1 : DP w1 B D B 0 [] := ⟨_, 0, hd1, Nat.le_refl _, Nat.le_refl _⟩
  have he1 : Env w w1 B := ⟨HT.out, by omega, by rw [hB]; exact hb1, by have := hb1.size; omega⟩
  have c2 := DAdd hp1 (by omega) he1 wb 1 (by decide) (by decide)
  rw [ex1] at c2
  have C2 : Hid (Calls Tryd.prog 17 #[.pointer (some ⟨D, 0, none⟩), .string ⟨#[98]⟩, .int .i64 1] w1 fun e w' => e = .returned (.int .i64 0) ∧ StD w1 B D B 1 [⟨wb, 1⟩] w') := Lib.hid c2
  have HE1 := Lib.hid he1
  have HB := Lib.hid hB
  have HB1 := Lib.hid hb1
  clear hd1 hb1 hp1 he1 c2 C1 hB hD
  go_wp2_with fail
  refine (C2.out).mono ?_
  rintro e w2 ⟨rfl, hp2, _, hb2⟩
  have he2 := HE1.out.step hb2
  have c3 := DAdd hp2 (by omega) he2 wA 2 (by decide) (by decide)
  rw [ex2] at c3
  have C3 : Hid (Calls Tryd.prog 17 #[.pointer (some ⟨D, 0, none⟩), .string ⟨#[65]⟩, .int .i64 2] w2 fun e w' => e = .returned (.int .i64 0) ∧ StD w2 B D B 2 [⟨wA, 2⟩, ⟨wb, 1⟩] w') := Lib.hid c3
  have HE2 := Lib.hid he2
  have HB2 := Lib.hid (HB1.out.trans hb2)
  clear hp2 hb2 he2 c3 C2
  go_wp2_with fail
  refine (C3.out).mono ?_
  rintro e w3 ⟨rfl, hp3, _, hb3⟩
  have he3 := HE2.out.step hb3
  have c4 := DAdd hp3 (by omega) he3 wa 3 (by decide) (by decide)
  rw [ex3] at c4
  have C4 : Hid (Calls Tryd.prog 17 #[.pointer (some ⟨D, 0, none⟩), .string ⟨#[97]⟩, .int .i64 3] w3 fun e w' => e = .returned (.int .i64 8) ∧ StD w3 B D B 3 [⟨wA, 2⟩, ⟨wb, 1⟩] w') := Lib.hid c4
  have HE3 := Lib.hid he3
  have HB3 := Lib.hid (HB2.out.trans hb3)
  clear hp3 hb3 he3 c4 C3
  go_wp2_with fail
  refine (C4.out).mono ?_
  rintro e w4 ⟨rfl, hp4, _, hb4⟩
  have he4 := HE3.out.step hb4
  have c5 := DFind hp4 (by omega) he4 wB (by decide)
  rw [ex4.1, ex4.2.1, ex4.2.2] at c5
  have C5 : Hid (Calls Tryd.prog 18 #[.pointer (some ⟨D, 0, none⟩), .string ⟨#[66]⟩] w4 fun e w' => e = .returned (.tuple #[.int .i64 1, .string ⟨#[98]⟩, .int .i64 0]) ∧ Below w4.heap.size w4 w') := Lib.hid c5
  have HE4 := Lib.hid he4
  have HP4 := Lib.hid hp4
  have HB4 := Lib.hid (HB3.out.trans hb4)
  clear hp4 hb4 he4 c5 C4
  go_wp2_with fail
  refine (C5.out).mono ?_
  rintro e w5 ⟨rfl, hb5⟩
  have c6 := DList (HP4.out.below hb5) (by omega) (HE4.out.on hb5) wst ⟨#[]⟩ 9 (by decide) (by decide)
  have C6 : Hid (Calls Tryd.prog 12 #[.pointer (some ⟨D, 0, none⟩), .string ⟨#[42]⟩, .string ⟨#[]⟩, .int .i64 9] w5 fun e w' => ∃ A c, e = .returned (.tuple #[.slice A 2 c, .bool false, .int .i64 0]) ∧ TR w' A c [wA, wb] ∧ Below w5.heap.size w5 w') := Lib.hid (c6.mono fun e w' h => by
    obtain ⟨A, c, h1, h2, _, h3⟩ := h.tr
    rw [ex5.1] at h1 h2
    rw [ex5.2.1, ex5.2.2] at h1
    exact ⟨A, c, h1, h2, h3⟩)
  have HB5 := Lib.hid (HB4.out.trans (hb5.mono (by have := HE4.out.base; exact this)))
  have HE5 := Lib.hid (HE4.out.on hb5)
  clear hb5 c6 C5
  go_wp2_with fail
  refine (C6.out).mono ?_
  rintro e w6 ⟨A6, c6, rfl, ht6, hb6⟩
  have HB6 := Lib.hid (HB5.out.trans (hb6.mono HE5.out.base))
  have HS6 := Lib.hid (Nat.le_trans HE5.out.base hb6.size)
  have HT6 := Lib.hid ht6
  clear hb6 ht6 C6
  have hbv : Below w6.heap.size w6 (w6.alloc (.cells #[.string ⟨#[65]⟩, .string ⟨#[98]⟩] 9)) := (Below.refl _ _).alloc (Nat.le_refl _) _
  have hV := heap_alloc_new w6 (.cells #[.string ⟨#[65]⟩, .string ⟨#[98]⟩] 9)
  have hlt : w6.heap.size < (w6.alloc (.cells #[.string ⟨#[65]⟩, .string ⟨#[98]⟩] 9)).heap.size := by simp
  have C7 := Lib.hid (Texts_calls A6 (some ⟨w6.heap.size, 0, none⟩) c6 2 [wA, wb] [wA, wb] (w6.alloc (.cells #[.string ⟨#[65]⟩, .string ⟨#[98]⟩] 9)) (HT6.out.below hbv) ⟨Nat.le_refl _, by decide, fun _ => ⟨w6.heap.size, 0, rfl, hlt, fun j x hj => by
    rw [Nat.zero_add, Lib.cell_of_heap hV]
    match j, hj with
    | 0, hj => injection hj with hj; subst hj; rfl
    | 1, hj => injection hj with hj; subst hj; rfl
    | j + 2, hj => simp at hj⟩⟩ (by decide))
  have C8 : Hid (Calls Tryd.prog 14 #[.slice A6 2 c6, .slice (some ⟨w6.heap.size, 0, none⟩) 2 2] (w6.alloc (.cells #[.string ⟨#[65]⟩, .string ⟨#[98]⟩] 9)) fun e w' => e = .returned (.bool true) ∧ Below (w6.alloc (.cells #[.string ⟨#[65]⟩, .string ⟨#[98]⟩] 9)).heap.size (w6.alloc (.cells #[.string ⟨#[65]⟩, .string ⟨#[98]⟩] 9)) w') := Lib.hid (by
    have := C7.out
    rw [decide_eq_true rfl] at this
    exact this)
  have HBV := Lib.hid (HB6.out.trans (hbv.mono HS6.out))
  have HSV := Lib.hid (Nat.le_trans HS6.out hbv.size)
  clear hbv hV hlt C7
  go_wp2_with fail
  refine (C8.out).mono ?_
  rintro e w7 ⟨rfl, hb7⟩
  have hfin := HBV.out.trans (hb7.mono HSV.out)
  have HFIN : Hid (Below w.heap.size w w7) := Lib.hid (by rw [HB.out]; exact hfin)
  clear hb7 hfin C8
  go_wp2
  go_ret
  exact ⟨rfl, HFIN.out⟩
end Go.Proofs.YtkdjkndnilmjmaaDoor.U
/- What the bound on a reading's bulk gives: a string's letters, a slice's elements. -/
namespace Go.Proofs.YtkdjkndnilmjmaaDoor.bulks
theorem one_le {H : Type} (d : DataW H) : 1 ≤ Rows.uptoBulk d := by
  cases d with
  | lit l => cases l <;> simp [Rows.uptoBulk]
  | nil => simp [Rows.uptoBulk]
  | ptr d => simp [Rows.uptoBulk]
  | slice elems spare => simp [Rows.uptoBulk]
  | agg parts => simp [Rows.uptoBulk]
  | iface t d => simp [Rows.uptoBulk]
  | map entries => simp [Rows.uptoBulk]
  | held h => simp [Rows.uptoBulk]
theorem part_le {H : Type} {d : DataW H} {l : List (DataW H)} (h : d ∈ l) : Rows.uptoBulk d ≤ Rows.uptoBulkAll l := by
  induction l with
  | nil => cases h
  | cons x r ih =>
    simp only [Rows.uptoBulkAll]
    cases List.mem_cons.1 h with
    | inl e => subst e; omega
    | inr e => have := ih e; omega
theorem append {H : Type} (l r : List (DataW H)) : Rows.uptoBulkAll (l ++ r) = Rows.uptoBulkAll l + Rows.uptoBulkAll r := by
  induction l with
  | nil => simp [Rows.uptoBulkAll]
  | cons x l ih => simp only [List.cons_append, Rows.uptoBulkAll, ih]; omega
theorem length_le {H : Type} (l : List (DataW H)) : l.length ≤ Rows.uptoBulkAll l := by
  induction l with
  | nil => simp [Rows.uptoBulkAll]
  | cons x r ih => have := one_le x; simp only [Rows.uptoBulkAll, List.length_cons]; omega
theorem slice_le {H : Type} (elems spare : List (DataW H)) : elems.length + spare.length + 1 ≤ Rows.uptoBulk (.slice elems spare) := by
  have h1 := length_le elems
  have h2 := length_le spare
  simp only [Rows.uptoBulk]
  omega
theorem slice_elems {H : Type} (elems spare : List (DataW H)) : Rows.uptoBulkAll elems + 1 ≤ Rows.uptoBulk (.slice elems spare) := by
  simp only [Rows.uptoBulk]
  omega
theorem string_eq {H : Type} (bytes : List UInt8) : Rows.uptoBulk (DataW.lit (H := H) (.string bytes)) = bytes.length + 1 := by
  simp [Rows.uptoBulk]
theorem bound {H : Type} {l : List (DataW H)} (hk : Rows.uptoSmall H l = true) : Rows.uptoBulkAll l ≤ 1048576 := of_decide_eq_true hk
/-- A string among the arguments. -/
theorem string_le {H : Type} {l : List (DataW H)} (hk : Rows.uptoSmall H l = true) {bytes : List UInt8} (h : DataW.lit (.string bytes) ∈ l) : bytes.length ≤ 1048576 := by
  have h1 := part_le h
  have h2 := bound hk
  rw [string_eq] at h1
  omega
end Go.Proofs.YtkdjkndnilmjmaaDoor.bulks
/- What an argument of whatever readable type reads behind the call, where the call changes nothing that was there. -/
namespace Go.Proofs.YtkdjkndnilmjmaaDoor.U
open Go Go.RowKit

theorem laidOutB : laidOutB Tryd.prog = true := by kernel_rfl
theorem backs {H : Type} {enc : TypeId × Value → H} {t : TypeId} (hr : Tryd.prog.readableRec t = true) (ht : t < Tryd.prog.types.size) {W W' : World} {v : Value} {d : DataW H} {ps : List MemPlace} (h : DataW.Trod enc Tryd.prog W 0 (fun _ => true) true t v d ps) (bel : Below W.heap.size W W') :
    DataW.Trod enc Tryd.prog W' 0 (fun b => decide (b < W.heap.size)) true t v d ps :=
  Below.trod laidOutB hr ht h bel (by obtain ⟨m, hm⟩ := h; exact DataW.trod_lt m _ _ _ hm)
end Go.Proofs.YtkdjkndnilmjmaaDoor.U
/- An argument that is a slice of acts: what its reading gives the walk. -/
set_option linter.unusedVariables false
set_option linter.unusedSimpArgs false
namespace Go.Proofs.YtkdjkndnilmjmaaDoor.U
open Go.ChangeShapes Go.WideShapes Go.ChangeAt Go.RowKit Go.Lib Go.Proofs.YtkdjkndnilmjmaaDoorW.PrintWords

theorem arg_le {H : Type} {l : List (DataW H)} (hk : Rows.uptoSmall H l = true) {d : DataW H} (h : d ∈ l) : Rows.uptoBulk d ≤ 1048576 :=
  Nat.le_trans (bulks.part_le h) (bulks.bound hk)
theorem addr_plain {W : World} {g o : Nat} {sp : Option Nat} {v : Value} (h : W.cell? ⟨g, o, sp⟩ = some v) : sp = none ∧ g < W.heap.size := by
  unfold World.cell? at h
  cases hh : W.heap[g]? with
  | none => simp [hh] at h
  | some ob =>
    refine ⟨?_, (Array.getElem?_eq_some_iff.1 hh).1⟩
    cases sp with
    | none => rfl
    | some k => cases ob <;> simp [hh] at h
theorem four_cells {W : World} {base : Nat} {a : Addr} {cs : List Value} (h : W.cells? base a 4 = some cs) : ∃ c0 c1 c2 c3, cs = [c0, c1, c2, c3] ∧ W.cell? (a.add 0) = some c0 ∧ W.cell? (a.add 1) = some c1 ∧ W.cell? (a.add 2) = some c2 ∧ W.cell? (a.add 3) = some c3 := by
  unfold World.cells? at h
  split at h
  · rw [show List.range 4 = [0, 1, 2, 3] from rfl] at h
    simp only [List.mapM_cons, List.mapM_nil, Option.bind_eq_bind, Option.bind_eq_some_iff, Option.pure_def, Option.some.injEq] at h
    obtain ⟨c0, h0, l0, ⟨c1, h1, l1, ⟨c2, h2, l2, ⟨c3, h3, l3, rfl, rfl⟩, rfl⟩, rfl⟩, rfl⟩ := h
    exact ⟨c0, c1, c2, c3, rfl, h0, h1, h2, h3⟩
  · cases h
/-- The acts' texts are of that size. -/
def AOkB (B : Nat) (l : List ActV) : Prop := ∀ a ∈ l, a.s.size ≤ B ∧ a.t.size ≤ B ∧ (Lit.int .i64 a.k).wf = true
theorem AOkB.ok {l : List ActV} (h : AOkB 1048576 l) : AOk l := h
set_option maxRecDepth 100000 in
theorem open_acts {H : Type} {enc : TypeId × Value → H} {W : World} {v : Value} {d : DataW H} {ps : List MemPlace}
    (hval : Value.okWide Tryd.prog W .any 0 22 v) (h : DataW.Trod enc Tryd.prog W 0 (fun _ => true) true 22 v d ps) :
    ∃ (A : Option Addr) (c : Nat) (al : List ActV), v = .slice A al.length c ∧ AR W A al ∧ (∀ B, Rows.uptoBulk d ≤ B → al.length ≤ B ∧ AOkB B al) := by
  obtain ⟨A, n, c, rfl⟩ := okWide_slice Tryd.underlying22 hval
  obtain ⟨fuel, hf⟩ := h
  rcases DataW.trod_slice Tryd.underlying22 hf with ⟨hcs, hx⟩ | ⟨x, len, cap, elems, rest, m, _, hcs, hx, hb, hl, hm, hlen, hel, hsp, hns⟩
  · simp [Value.cells] at hcs
    obtain ⟨rfl, rfl, rfl⟩ := hcs
    exact ⟨none, 0, [], rfl, fun h => (by cases h), fun B _ => ⟨Nat.zero_le _, fun a ha => (by cases ha)⟩⟩
  · simp [Value.cells] at hcs
    obtain ⟨rfl, rfl, rfl⟩ := hcs
    injection hx with hd _
    subst hd
    have hc4 : Tryd.prog.cellsOf 56 = 4 := by kernel_rfl
    rw [hc4] at hel
    have each : ∀ i : Nat, ∃ a : ActV, i < n → ∃ y, elems[i]? = some y ∧ W.cell? ((x.add (i * 4)).add 0) = some (.int .i64 a.d) ∧ W.cell? ((x.add (i * 4)).add 1) = some (.string a.s) ∧ W.cell? ((x.add (i * 4)).add 2) = some (.string a.t) ∧ W.cell? ((x.add (i * 4)).add 3) = some (.int .i64 a.k) ∧ (Lit.int .i64 a.k).wf = true ∧ a.s.size ≤ Rows.uptoBulk y.1 ∧ a.t.size ≤ Rows.uptoBulk y.1 := by
      intro i
      by_cases hi : i < n
      · obtain ⟨y, hy⟩ : ∃ y, elems[i]? = some y := ⟨_, List.getElem?_eq_getElem (by omega)⟩
        have he := (hel i hi).trans hy
        rw [Option.bind_eq_some_iff] at he
        obtain ⟨cs, hcs, ht⟩ := he
        obtain ⟨c0, c1, c2, c3, rfl, g0, g1, g2, g3⟩ := four_cells hcs
        obtain ⟨y0, y1, y2, y3, k, hxy, _, t0, t1, t2, t3⟩ := Joins.trod_struct4 Tryd.underlying56 ht
        have o1 : Tryd.prog.cellsOf 3 = 1 := by kernel_rfl
        have o2 : Tryd.prog.cellsOf 9 = 1 := by kernel_rfl
        simp only [o1, o2, List.drop_zero, List.drop_succ_cons, List.take_succ_cons, List.take_zero] at t0 t1 t2 t3
        obtain ⟨z0, hz0, _, w0⟩ := DataW.trod_int Tryd.underlying3 t0
        obtain ⟨s1, hs1, e1, _⟩ := DataW.trod_string Tryd.underlying9 t1
        obtain ⟨s2, hs2, e2, _⟩ := DataW.trod_string Tryd.underlying9 t2
        obtain ⟨z3, hz3, _, w3⟩ := DataW.trod_int Tryd.underlying3 t3
        injection hz0 with hz0
        injection hs1 with hs1
        injection hs2 with hs2
        injection hz3 with hz3
        subst hz0 hs1 hs2 hz3
        refine ⟨⟨z0, s1, s2, z3⟩, fun _ => ⟨y, hy, g0, g1, g2, g3, w3, ?_, ?_⟩⟩
        · rw [hxy, e1]
          have := bulks.string_eq (H := H) s1.data.toList
          simp only [Rows.uptoBulk, Rows.uptoBulkAll] at this ⊢
          rw [Array.length_toList, ByteArray.size_data]
          show s1.size ≤ _
          omega
        · rw [hxy, e2]
          have := bulks.string_eq (H := H) s2.data.toList
          simp only [Rows.uptoBulk, Rows.uptoBulkAll] at this ⊢
          rw [Array.length_toList, ByteArray.size_data]
          show s2.size ≤ _
          omega
      · exact ⟨⟨0, ⟨#[]⟩, ⟨#[]⟩, 0⟩, fun h => absurd h hi⟩
    obtain ⟨f, hf⟩ : ∃ f : Nat → ActV, ∀ i, i < n → ∃ y, elems[i]? = some y ∧ W.cell? ((x.add (i * 4)).add 0) = some (.int .i64 (f i).d) ∧ W.cell? ((x.add (i * 4)).add 1) = some (.string (f i).s) ∧ W.cell? ((x.add (i * 4)).add 2) = some (.string (f i).t) ∧ W.cell? ((x.add (i * 4)).add 3) = some (.int .i64 (f i).k) ∧ (Lit.int .i64 (f i).k).wf = true ∧ (f i).s.size ≤ Rows.uptoBulk y.1 ∧ (f i).t.size ≤ Rows.uptoBulk y.1 :=
      ⟨fun i => Classical.choose (each i), fun i hi => Classical.choose_spec (each i) hi⟩
    have hlen2 : ((List.range n).map f).length = n := by simp
    refine ⟨some x, c, (List.range n).map f, by rw [hlen2], fun h0 => ?_, fun B hB => ⟨?_, fun a ha => ?_⟩⟩
    · rw [hlen2] at h0
      obtain ⟨g, o, sp⟩ := x
      obtain ⟨y, _, q0, _⟩ := hf 0 h0
      rw [Nat.zero_mul] at q0
      obtain ⟨hsp, hg⟩ := addr_plain (sp := sp) (g := g) (o := o) (by exact q0)
      subst hsp
      refine ⟨g, o, rfl, hg, fun j a ha => ?_⟩
      rw [List.getElem?_map] at ha
      obtain ⟨j', hj', rfl⟩ := Option.map_eq_some_iff.1 ha
      have hjn : j < n := by have := (List.getElem?_eq_some_iff.1 hj').1; simpa using this
      rw [List.getElem?_range hjn] at hj'
      injection hj' with hj'
      subst hj'
      obtain ⟨y, _, q0, q1, q2, q3, _⟩ := hf j hjn
      rw [Addr.add_lit, Addr.add_lit] at q0 q1 q2 q3
      exact ⟨q0, q1, q2, q3⟩
    · rw [hlen2]
      have h1 := bulks.slice_le (H := H) (elems.map (·.1)) (rest.map (·.1))
      rw [List.length_map, hlen] at h1
      omega
    · obtain ⟨j, hj, rfl⟩ := List.mem_map.1 ha
      have hjn := List.mem_range.1 hj
      obtain ⟨y, hy, _, _, _, _, hw, hb1, hb2⟩ := hf j hjn
      have h1 : y.1 ∈ elems.map (·.1) := List.mem_map_of_mem (List.mem_of_getElem? hy)
      have h2 := bulks.part_le h1
      have h3 := bulks.slice_elems (H := H) (elems.map (·.1)) (rest.map (·.1))
      have hb1' : (f j).s.size ≤ Rows.uptoBulk y.1 := hb1
      have hb2' : (f j).t.size ≤ Rows.uptoBulk y.1 := hb2
      exact ⟨by omega, by omega, hw⟩
end Go.Proofs.YtkdjkndnilmjmaaDoor.U
