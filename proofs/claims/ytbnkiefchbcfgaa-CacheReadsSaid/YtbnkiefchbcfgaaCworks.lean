/- cache: the document's own example. -/
import Derived.Test.YtbnkiefchbcfgaaCplayed
set_option linter.unusedVariables false
set_option linter.unusedSimpArgs false
namespace Go.Proofs.Ytbnkiefchbcfgaa.U
open Go.RowKit Go.Proofs Go.Lib Go.Proofs.YtbnkiefchbcfgaaW.PrintWords Go.Proofs.Ytbnkiefchbcfgaa.PR

/-- A cache alone, made by the call. -/
def Solo (w0 : World) (D : Nat) (s : St) (w : World) : Prop := ∃ lA c oA oc, One w (fun _ => False) D s lA c oA oc ∧ (∀ L o, lA = some ⟨L, o, none⟩ → D ≤ L) ∧ (∀ L o, oA = some ⟨L, o, none⟩ → D ≤ L) ∧ Below D w0 w
/-- Rows of bytes stand. -/
def U8K (w w' : World) : Prop := ∀ (g : Nat) (cs : Array Value) (fz : Nat × Nat), w.heap[g]? = some (Obj.cells cs 5 fz) → w'.heap[g]? = some (Obj.cells cs 5 fz)
theorem U8K.below {w w' : World} (h : Below w.heap.size w w') : U8K w w' := fun g cs fz hh => kept_below h _ _ hh
theorem FrC.u8k {w w' : World} {N : Nat → Prop} {C : Nat} {s : St} {lA oA : Option Addr} {c oc : Nat} (hf : FrC w w' C lA oA) (hd : One w N C s lA c oA oc) : U8K w w' := fun g cs fz hh => by
  rw [hf.block g (Array.getElem?_eq_some_iff.1 hh).1 (ne_block hh hd.d.head (by decide)) (fun o e => ?_) (fun o e => ?_)]
  · exact hh
  · obtain ⟨_, _, cs', hL⟩ := hd.d.known.at_ e
    exact ne_block hh hL (by decide) rfl
  · obtain ⟨_, cs', hL⟩ := hd.d.opn.at_ e
    exact ne_block hh hL (by decide) rfl
section
variable {w0 w w' : World} {D n : Nat} {s s' : St}
theorem Solo.below (h : Solo w0 D s w) (hb : Below w.heap.size w w') (hD : D ≤ w.heap.size) : Solo w0 D s w' := by
  obtain ⟨lA, c, oA, oc, h1, h2, h3, h4⟩ := h
  exact ⟨lA, c, oA, oc, h1.below hb, h2, h3, h4.trans (hb.mono hD)⟩
theorem Solo.step {lA : Option Addr} {c : Nat} {oA : Option Addr} {oc : Nat} (h1 : One w (fun _ => False) D s lA c oA oc) (h2 : ∀ L o, lA = some ⟨L, o, none⟩ → D ≤ L) (h3 : ∀ L o, oA = some ⟨L, o, none⟩ → D ≤ L) (h4 : Below D w0 w) (hD : D ≤ w0.heap.size) (hs : StepC w (fun _ => False) D lA oA s' w') : Solo w0 D s' w' := by
  obtain ⟨lA', c', oA', oc', r1, r2, r3, r4⟩ := hs
  have hDw : D ≤ w.heap.size := Nat.le_trans hD h4.size
  refine ⟨lA', c', oA', oc', r1, fun L o e => ?_, fun L o e => ?_, r2.below h4 hD (Nat.le_refl _) h2 h3⟩
  · rcases r3 L o e with ⟨o2, h5⟩ | h5
    · exact h2 L o2 h5
    · omega
  · rcases r4 L o e with ⟨o2, h5⟩ | h5
    · exact h3 L o2 h5
    · omega
theorem Solo.size (h : Solo w0 D s w) : w0.heap.size ≤ w.heap.size := by
  obtain ⟨lA, c, oA, oc, h1, h2, h3, h4⟩ := h
  exact h4.size
theorem Solo.frame (h : Solo w0 D s w) : Below D w0 w := by
  obtain ⟨lA, c, oA, oc, h1, h2, h3, h4⟩ := h
  exact h4
theorem SW (h : Solo w0 D s w) (hD : D ≤ w0.heap.size) (g : Good s n) (hn : n ≤ 1000000) (p : Int) (A : Option Addr) (bs : List Int) (ca : Nat) (hA : BA w A ca bs) (hu : ∀ g o, A = some ⟨g, o, none⟩ → ∃ cs fz, w.heap[g]? = some (.cells cs 5 fz)) :
    Calls Try.prog 14 #[.pointer (some ⟨D, 0, none⟩), .int .i64 p, .slice A bs.length ca] w fun e w' => e = .returned (.bool (stW s p bs).1) ∧ Solo w0 D (stW s p bs).2 w' ∧ U8K w w' := by
  obtain ⟨lA, c, oA, oc, h1, h2, h3, h4⟩ := h
  refine (TW h1 g hn p A bs ca hA (fun _ g o e => ?_)).mono ?_
  · obtain ⟨cs, fz, hh⟩ := hu g o e
    refine ⟨ne_block hh h1.d.head (by decide), fun o e => ?_⟩
    obtain ⟨_, _, cs', hL⟩ := h1.d.known.at_ e
    exact ne_block hh hL (by decide) rfl
  · rintro e w' ⟨rfl, hs⟩
    exact ⟨rfl, Solo.step h1 h2 h3 h4 hD hs, by obtain ⟨_, _, _, _, _, hf, _⟩ := hs; exact hf.u8k h1⟩
theorem SF (h : Solo w0 D s w) (hD : D ≤ w0.heap.size) (g : Good s n) (hn : n ≤ 1000000) (p : Int) (A : Option Addr) (bs : List Int) (ca : Nat) (hA : BA w A ca bs) :
    Calls Try.prog 12 #[.pointer (some ⟨D, 0, none⟩), .int .i64 p, .slice A bs.length ca] w fun e w' => e = .returned (.int .i64 (stF s p bs).1) ∧ Solo w0 D (stF s p bs).2 w' ∧ U8K w w' := by
  obtain ⟨lA, c, oA, oc, h1, h2, h3, h4⟩ := h
  refine (TF h1 g hn p A bs ca hA).mono ?_
  rintro e w' ⟨rfl, hs⟩
  exact ⟨rfl, Solo.step h1 h2 h3 h4 hD hs, by obtain ⟨_, _, _, _, _, hf, _⟩ := hs; exact hf.u8k h1⟩
theorem SR (h : Solo w0 D s w) (hD : D ≤ w0.heap.size) (g : Good s n) (p m : Int) :
    Calls Try.prog 15 #[.pointer (some ⟨D, 0, none⟩), .int .i64 p, .int .i64 m] w fun e w' => ∃ A ca, e = .returned (.tuple #[.slice A (stB s p m).length ca, .bool (stOk s p m)]) ∧ Ans w w' A ca (stB s p m) ∧ Solo w0 D s w' := by
  have hs := h.size
  have h' := h
  obtain ⟨lA, c, oA, oc, h1, h2, h3, h4⟩ := h
  refine (TR h1 g p m).mono ?_
  rintro e w' ⟨A, ca, rfl, ha⟩
  exact ⟨A, ca, rfl, ha, h'.below ha.2.2.2 (by omega)⟩
end
def abc : List Int := [97, 98, 99]
def ws0 : St := ⟨2, 5, [], []⟩
def ws1 : St := (stF ws0 0 [97, 98, 99]).2
def ws2 : St := (stW ws1 1 [120]).2
def ws3 : St := (stW ws2 4 [121, 122]).2
def ws4 : St := (stF ws3 0 [97, 98, 99]).2
theorem wg0 : Good ws0 0 := Good.new 0 (by decide) (by decide)
theorem wg1 : Good ws1 0 := wg0.f 0 _
theorem wg2 : Good ws2 1 := wg1.w 1 _
theorem wg3 : Good ws3 2 := wg2.w 4 _
theorem wg4 : Good ws4 2 := wg3.f 0 _
theorem we0 : stOk ws0 0 2 = false ∧ stB ws0 0 2 = [] := by decide +kernel
theorem we1 : (stF ws0 0 [97, 98, 99]).1 = 0 := by decide +kernel
theorem we2 : stOk ws1 1 2 = true ∧ stB ws1 1 2 = [98, 99] := by decide +kernel
theorem we3 : (stW ws1 1 [120]).1 = true ∧ (stW ws2 4 [121, 122]).1 = false := by decide +kernel
theorem we4 : (stF ws3 0 [97, 98, 99]).1 = 0 := by decide +kernel
theorem we5 : stOk ws4 0 3 = true ∧ stB ws4 0 3 = [97, 120, 99] := by decide +kernel
theorem we6 : ws4.os.length = 1 ∧ (stD ws4 1).1 = 17 := by decide +kernel
set_option maxHeartbeats 16000000 in
set_option maxRecDepth 1000000 in
theorem works_calls (w : World) :
    Calls Try.prog 20 #[] w fun e w' => e = .returned (.bool true) ∧ Below w.heap.size w w' := by
  have C1 := Lib.hid (New_ok (N := fun _ => False) 2 5 w (by decide) (by decide))
  go_enter Try.func20, Try.ntmps20
  go_wp2_with fail
  refine (C1.out).mono ?_
  rintro e w1 ⟨rfl, hd, hb⟩
  have hso : Solo w w.heap.size ws0 w1 := ⟨none, 0, none, 0, ⟨hd, fun k hk => hk.elim⟩, fun L o e => (by cases e), fun L o e => (by cases e), hb⟩
  have HDE := Lib.hid (Nat.le_refl w.heap.size)
  have c2 := SR hso HDE.out wg0 0 2
  rw [we0.1, we0.2] at c2
  have C2 := Lib.hid c2
  have HSO := Lib.hid hso
  clear hd hb hso c2 C1
  go_wp2_with fail
  refine (C2.out).mono ?_
  rintro e w2 ⟨A2, k2, rfl, ha2, hso2⟩
  have S2 := Lib.hid hso2
  clear ha2 hso2 C2 HSO
  have hsz : w.heap.size ≤ w2.heap.size := Nat.le_trans HDE.out S2.out.size
  have hconv := Lib.run_convert_bytes_const (P := Try.prog) w2 22 5 #[.int .u8 97, .int .u8 98, .int .u8 99] 3 3 Try.underlying22 Try.underlying5
  obtain ⟨x3, hwx⟩ : ∃ wx, w2.alloc (.cells #[.int .u8 97, .int .u8 98, .int .u8 99] 5 ((#[.int .u8 97, .int .u8 98, .int .u8 99] : Array Value).size, (#[.int .u8 97, .int .u8 98, .int .u8 99] : Array Value).size + 1)) = wx := ⟨_, rfl⟩
  rw [hwx] at hconv
  have hbx : Below w2.heap.size w2 x3 := by rw [← hwx]; exact (Below.refl _ _).alloc (Nat.le_refl _) _
  have hBx : x3.heap[w2.heap.size]? = some (.cells (nums .u8 [97, 98, 99]).toArray 5 (3, 4)) := by rw [← hwx]; exact heap_alloc_new w2 _
  have hRx : BA x3 (some ⟨w2.heap.size, 0, none⟩) 3 [97, 98, 99] := (BR_row hBx).ba
  have hux : ∀ g o, (some ⟨w2.heap.size, 0, none⟩ : Option Addr) = some ⟨g, o, none⟩ → ∃ cs fz, x3.heap[g]? = some (.cells cs 5 fz) := fun g o e => by
    injection e with e
    injection e with e
    subst e
    exact ⟨_, _, hBx⟩
  have c3 := SF (S2.out.below hbx hsz) HDE.out wg0 (by decide) 0 _ [97, 98, 99] 3 hRx
  rw [we1] at c3
  have C3 := Lib.hid c3
  clear c3 hbx hBx hRx hux hsz hwx
  go_wp2_with fail
  refine (C3.out).mono ?_
  rintro e w3 ⟨rfl, hso3, hu3⟩
  have hso3 : Solo w w.heap.size ws1 w3 := hso3
  have c4 := SR hso3 HDE.out wg1 1 2
  rw [we2.1, we2.2] at c4
  have C4 := Lib.hid c4
  clear hso3 hu3 c4 C3 S2 hconv
  go_wp2_with fail
  refine (C4.out).mono ?_
  rintro e w4 ⟨A4, k4, rfl, ha4, hso4⟩
  have S4 := Lib.hid hso4
  have B4 := Lib.hid ha4.1
  clear ha4 hso4 C4
  have hsz : w.heap.size ≤ w4.heap.size := Nat.le_trans HDE.out S4.out.size
  have hconv := Lib.run_convert_bytes_const (P := Try.prog) w4 22 5 #[.int .u8 120] 1 1 Try.underlying22 Try.underlying5
  obtain ⟨x5, hwx⟩ : ∃ wx, w4.alloc (.cells #[.int .u8 120] 5 ((#[.int .u8 120] : Array Value).size, (#[.int .u8 120] : Array Value).size + 1)) = wx := ⟨_, rfl⟩
  rw [hwx] at hconv
  have hbx : Below w4.heap.size w4 x5 := by rw [← hwx]; exact (Below.refl _ _).alloc (Nat.le_refl _) _
  have hBx : x5.heap[w4.heap.size]? = some (.cells (nums .u8 [120]).toArray 5 (1, 2)) := by rw [← hwx]; exact heap_alloc_new w4 _
  have hRx : BA x5 (some ⟨w4.heap.size, 0, none⟩) 1 [120] := (BR_row hBx).ba
  have hux : ∀ g o, (some ⟨w4.heap.size, 0, none⟩ : Option Addr) = some ⟨g, o, none⟩ → ∃ cs fz, x5.heap[g]? = some (.cells cs 5 fz) := fun g o e => by
    injection e with e
    injection e with e
    subst e
    exact ⟨_, _, hBx⟩
  have c5 := SW (S4.out.below hbx hsz) HDE.out wg1 (by decide) 1 _ [120] 1 hRx hux
  rw [we3.1] at c5
  have C5 := Lib.hid c5
  have B5 := Lib.hid (B4.out.kept (U8K.below hbx))
  clear c5 hbx hBx hRx hux hsz hwx B4 S4
  go_wp2_with fail
  refine (C5.out).mono ?_
  rintro e w5 ⟨rfl, hso5, hu5⟩
  have hso5 : Solo w w.heap.size ws2 w5 := hso5
  have S5 := Lib.hid hso5
  have B6 := Lib.hid (B5.out.kept hu5)
  clear hso5 hu5 C5 B5 hconv
  have hsz : w.heap.size ≤ w5.heap.size := Nat.le_trans HDE.out S5.out.size
  have hconv := Lib.run_convert_bytes_const (P := Try.prog) w5 22 5 #[.int .u8 121, .int .u8 122] 2 2 Try.underlying22 Try.underlying5
  obtain ⟨x6, hwx⟩ : ∃ wx, w5.alloc (.cells #[.int .u8 121, .int .u8 122] 5 ((#[.int .u8 121, .int .u8 122] : Array Value).size, (#[.int .u8 121, .int .u8 122] : Array Value).size + 1)) = wx := ⟨_, rfl⟩
  rw [hwx] at hconv
  have hbx : Below w5.heap.size w5 x6 := by rw [← hwx]; exact (Below.refl _ _).alloc (Nat.le_refl _) _
  have hBx : x6.heap[w5.heap.size]? = some (.cells (nums .u8 [121, 122]).toArray 5 (2, 3)) := by rw [← hwx]; exact heap_alloc_new w5 _
  have hRx : BA x6 (some ⟨w5.heap.size, 0, none⟩) 2 [121, 122] := (BR_row hBx).ba
  have hux : ∀ g o, (some ⟨w5.heap.size, 0, none⟩ : Option Addr) = some ⟨g, o, none⟩ → ∃ cs fz, x6.heap[g]? = some (.cells cs 5 fz) := fun g o e => by
    injection e with e
    injection e with e
    subst e
    exact ⟨_, _, hBx⟩
  have c6 := SW (S5.out.below hbx hsz) HDE.out wg2 (by decide) 4 _ [121, 122] 2 hRx hux
  rw [we3.2] at c6
  have C6 := Lib.hid c6
  have B7 := Lib.hid (B6.out.kept (U8K.below hbx))
  clear c6 hbx hBx hRx hux hsz hwx B6 S5
  go_wp2_with fail
  refine (C6.out).mono ?_
  rintro e w6 ⟨rfl, hso6, hu6⟩
  have hso6 : Solo w w.heap.size ws3 w6 := hso6
  have S6 := Lib.hid hso6
  have B8 := Lib.hid (B7.out.kept hu6)
  clear hso6 hu6 C6 B7 hconv
  have hsz : w.heap.size ≤ w6.heap.size := Nat.le_trans HDE.out S6.out.size
  have hconv := Lib.run_convert_bytes_const (P := Try.prog) w6 22 5 #[.int .u8 97, .int .u8 98, .int .u8 99] 3 3 Try.underlying22 Try.underlying5
  obtain ⟨x7, hwx⟩ : ∃ wx, w6.alloc (.cells #[.int .u8 97, .int .u8 98, .int .u8 99] 5 ((#[.int .u8 97, .int .u8 98, .int .u8 99] : Array Value).size, (#[.int .u8 97, .int .u8 98, .int .u8 99] : Array Value).size + 1)) = wx := ⟨_, rfl⟩
  rw [hwx] at hconv
  have hbx : Below w6.heap.size w6 x7 := by rw [← hwx]; exact (Below.refl _ _).alloc (Nat.le_refl _) _
  have hBx : x7.heap[w6.heap.size]? = some (.cells (nums .u8 [97, 98, 99]).toArray 5 (3, 4)) := by rw [← hwx]; exact heap_alloc_new w6 _
  have hRx : BA x7 (some ⟨w6.heap.size, 0, none⟩) 3 [97, 98, 99] := (BR_row hBx).ba
  have hux : ∀ g o, (some ⟨w6.heap.size, 0, none⟩ : Option Addr) = some ⟨g, o, none⟩ → ∃ cs fz, x7.heap[g]? = some (.cells cs 5 fz) := fun g o e => by
    injection e with e
    injection e with e
    subst e
    exact ⟨_, _, hBx⟩
  have c7 := SF (S6.out.below hbx hsz) HDE.out wg3 (by decide) 0 _ [97, 98, 99] 3 hRx
  rw [we4] at c7
  have C7 := Lib.hid c7
  have B9 := Lib.hid (B8.out.kept (U8K.below hbx))
  clear c7 hbx hBx hRx hux hsz hwx B8 S6
  go_wp2_with fail
  refine (C7.out).mono ?_
  rintro e w7 ⟨rfl, hso7, hu7⟩
  have hso7 : Solo w w.heap.size ws4 w7 := hso7
  have c8 := SR hso7 HDE.out wg4 0 3
  rw [we5.1, we5.2] at c8
  have C8 := Lib.hid c8
  have B10 := Lib.hid (B9.out.kept hu7)
  clear hso7 hu7 c8 C7 B9 hconv
  go_wp2_with fail
  refine (C8.out).mono ?_
  rintro e w8 ⟨A8, k8, rfl, ha8, hso8⟩
  have S8 := Lib.hid hso8
  have B11 := Lib.hid (B10.out.kept (U8K.below ha8.2.2.2))
  have R11 := Lib.hid ha8.1
  clear ha8 hso8 C8 B10
  have hsz : w.heap.size ≤ w8.heap.size := Nat.le_trans HDE.out S8.out.size
  have hconv := Lib.run_convert_bytes_const (P := Try.prog) w8 22 5 #[.int .u8 98, .int .u8 99] 2 2 Try.underlying22 Try.underlying5
  obtain ⟨x9, hwx⟩ : ∃ wx, w8.alloc (.cells #[.int .u8 98, .int .u8 99] 5 ((#[.int .u8 98, .int .u8 99] : Array Value).size, (#[.int .u8 98, .int .u8 99] : Array Value).size + 1)) = wx := ⟨_, rfl⟩
  rw [hwx] at hconv
  have hbx : Below w8.heap.size w8 x9 := by rw [← hwx]; exact (Below.refl _ _).alloc (Nat.le_refl _) _
  have hBx : x9.heap[w8.heap.size]? = some (.cells (nums .u8 [98, 99]).toArray 5 (2, 3)) := by rw [← hwx]; exact heap_alloc_new w8 _
  have hRx : BA x9 (some ⟨w8.heap.size, 0, none⟩) 2 [98, 99] := (BR_row hBx).ba
  have hux : ∀ g o, (some ⟨w8.heap.size, 0, none⟩ : Option Addr) = some ⟨g, o, none⟩ → ∃ cs fz, x9.heap[g]? = some (.cells cs 5 fz) := fun g o e => by
    injection e with e
    injection e with e
    subst e
    exact ⟨_, _, hBx⟩
  have C9 := Lib.hid (Same_eq A4 _ k4 2 [98, 99] x9 (B11.out.kept (U8K.below hbx)).ba hRx (by decide))
  have S9 := Lib.hid (S8.out.below hbx hsz)
  have R12 := Lib.hid (R11.out.kept (U8K.below hbx))
  clear hbx hBx hRx hux hsz hwx B11 S8 R11
  go_wp2_with fail
  refine (C9.out).mono ?_
  rintro e w9 ⟨rfl, hb9⟩
  have S10 := Lib.hid (S9.out.below hb9 (Nat.le_trans HDE.out S9.out.size))
  have R13 := Lib.hid (R12.out.kept (U8K.below hb9))
  clear hb9 C9 S9 R12 hconv
  have hsz : w.heap.size ≤ w9.heap.size := Nat.le_trans HDE.out S10.out.size
  have hconv := Lib.run_convert_bytes_const (P := Try.prog) w9 22 5 #[.int .u8 97, .int .u8 120, .int .u8 99] 3 3 Try.underlying22 Try.underlying5
  obtain ⟨x10, hwx⟩ : ∃ wx, w9.alloc (.cells #[.int .u8 97, .int .u8 120, .int .u8 99] 5 ((#[.int .u8 97, .int .u8 120, .int .u8 99] : Array Value).size, (#[.int .u8 97, .int .u8 120, .int .u8 99] : Array Value).size + 1)) = wx := ⟨_, rfl⟩
  rw [hwx] at hconv
  have hbx : Below w9.heap.size w9 x10 := by rw [← hwx]; exact (Below.refl _ _).alloc (Nat.le_refl _) _
  have hBx : x10.heap[w9.heap.size]? = some (.cells (nums .u8 [97, 120, 99]).toArray 5 (3, 4)) := by rw [← hwx]; exact heap_alloc_new w9 _
  have hRx : BA x10 (some ⟨w9.heap.size, 0, none⟩) 3 [97, 120, 99] := (BR_row hBx).ba
  have hux : ∀ g o, (some ⟨w9.heap.size, 0, none⟩ : Option Addr) = some ⟨g, o, none⟩ → ∃ cs fz, x10.heap[g]? = some (.cells cs 5 fz) := fun g o e => by
    injection e with e
    injection e with e
    subst e
    exact ⟨_, _, hBx⟩
  have C10 := Lib.hid (Same_eq A8 _ k8 3 [97, 120, 99] x10 (R13.out.kept (U8K.below hbx)).ba hRx (by decide))
  have S11 := Lib.hid (S10.out.below hbx hsz)
  clear hbx hBx hRx hux hsz hwx R13 S10
  go_wp2_with fail
  refine (C10.out).mono ?_
  rintro e w10 ⟨rfl, hb10⟩
  have S12 := S11.out.below hb10 (Nat.le_trans HDE.out S11.out.size)
  obtain ⟨lA, c, oA, oc, h1, h2, h3, h4⟩ := S12
  have c11 := Open_calls h1.d
  rw [we6.1] at c11
  have C11 := Lib.hid c11
  have c12 := TD h1 1
  rw [we6.2] at c12
  have C12 := Lib.hid c12
  have HB := Lib.hid h4
  have H1 := Lib.hid (And.intro h1 (And.intro h2 h3))
  clear hb10 C10 S11 hconv c11 c12 h1 h2 h3 h4
  go_wp2_with fail
  refine (C11.out).mono ?_
  rintro e w11 ⟨rfl, rfl⟩
  go_wp2_with fail
  refine (C12.out).mono ?_
  rintro e w12 ⟨rfl, hs⟩
  have HFIN := Lib.hid (Solo.step H1.out.1 H1.out.2.1 H1.out.2.2 HB.out HDE.out hs).frame
  clear hs C11 C12
  go_wp2_with fail
  go_ret
  exact ⟨rfl, HFIN.out⟩
end Go.Proofs.Ytbnkiefchbcfgaa.U
