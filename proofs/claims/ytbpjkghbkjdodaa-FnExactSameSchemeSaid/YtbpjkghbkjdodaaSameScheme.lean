/- This proves that the law FnExactSameScheme returns true for all schemes: the program's SameScheme and the reference's answer the same, and leave the schemes alone. No condition. -/
import Derived.Test.YtbpjkghbkjdodaaRows
import Derived.Test.YtbpjkghbkjdodaaSzS
import Derived.Test.YtbpjkghbkjdodaaSameS
import Derived.Test.YtbpjkghbkjdodaaRowS
import Derived.ProofKit
import Derived.OpenShut
import Derived.ShutString
import Derived.ChangeOld
import Derived.Below
import Derived.Deep.RegionHeld3
namespace Go.Proofs.Ytbpjkghbkjdodaa.fnExactSameScheme
open Go.ChangeShapes Go.WideShapes Go.ChangeAt
open Go.RowKit Go.Proofs.YtbpjkghbkjdodaaW.PrintWords Go.Proofs.YtbpjkghbkjdodaaW.PrintLast Fl

theorem cells4 {w w1 : World} {a b c d e f g h : Nat} {p q r s : Value} (H : w.cell? ⟨a, b, none⟩ = some p ∧ w.cell? ⟨c, d, none⟩ = some q ∧ w.cell? ⟨e, f, none⟩ = some r ∧ w.cell? ⟨g, h, none⟩ = some s) (hb : Below w.heap.size w w1) :
    w1.cell? ⟨a, b, none⟩ = some p ∧ w1.cell? ⟨c, d, none⟩ = some q ∧ w1.cell? ⟨e, f, none⟩ = some r ∧ w1.cell? ⟨g, h, none⟩ = some s := ⟨cell_step H.1 hb, cell_step H.2.1 hb, cell_step H.2.2.1 hb, cell_step H.2.2.2 hb⟩
set_option maxHeartbeats 1000000 in
set_option maxRecDepth 100000 in
theorem walk_long1 (A B : Option Addr) (c d x y : Nat) (l m : List Nat) (w : World) (hmx : l.length ≤ 9223372036854775807) (hn : 1048576 < l.length) :
    Calls Try.prog 6 #[.agg #[.slice A l.length c, .float .f32 x], .agg #[.slice B m.length d, .float .f32 y]] w fun e w' => e = .returned (.bool true) ∧ Below w.heap.size w w' := by
  go_enter Try.func6, Try.ntmps6
  go_wp2_with fail
  refine (szScheme_any A l.length c x 1048576 _ (by omega) (by omega) hmx).mono ?_
  rw [if_neg (by omega)]
  rintro e w0 ⟨rfl, bb⟩
  have B0 := Aside0.mk (Below.trans (below_alloc (below_alloc (Below.refl _ w) _) _) (bb.mono (by simp; omega)))
  clear bb
  go_wp2
  go_ret
  exact ⟨rfl, B0.out⟩
set_option maxHeartbeats 1000000 in
set_option maxRecDepth 100000 in
theorem walk_long2 (A B : Option Addr) (c d x y : Nat) (l m : List Nat) (w : World) (hn : l.length ≤ 1048576) (hmy : m.length ≤ 9223372036854775807) (hm : 1048576 < l.length + m.length) :
    Calls Try.prog 6 #[.agg #[.slice A l.length c, .float .f32 x], .agg #[.slice B m.length d, .float .f32 y]] w fun e w' => e = .returned (.bool true) ∧ Below w.heap.size w w' := by
  have hl : ¬ (1048576 : Int) - (l.length : Int) < 0 := by omega
  go_enter Try.func6, Try.ntmps6
  go_wp2_with fail
  refine (szScheme_any A l.length c x 1048576 _ (by omega) (by omega) (by omega)).mono ?_
  rw [if_pos (by omega)]
  rintro e w0 ⟨rfl, bb0⟩
  have B0 := Aside0.mk bb0
  have q0 : ((w.alloc (.cells #[.slice A l.length c, .float .f32 x] 36)).alloc (.cells #[.slice B m.length d, .float .f32 y] 36)).cell? ⟨w.heap.size + 1, 0, none⟩ = some (.slice B m.length d) := by simp
  have q1 : ((w.alloc (.cells #[.slice A l.length c, .float .f32 x] 36)).alloc (.cells #[.slice B m.length d, .float .f32 y] 36)).cell? ⟨w.heap.size + 1, 1, none⟩ = some (.float .f32 y) := by simp
  have y0 := cell_step q0 bb0
  have y1 := cell_step q1 bb0
  clear q0 q1 bb0
  go_wp2_with fail
  refine (szScheme_any B m.length d y (1048576 - l.length) _ (by omega) (by omega) hmy).mono ?_
  rw [if_neg (by omega)]
  rintro e w1 ⟨rfl, bb⟩
  have B1 := Aside0.mk (Below.trans (below_alloc (below_alloc (Below.refl _ w) _) _) ((Below.trans B0.out (bb.mono B0.out.size)).mono (by simp; omega)))
  clear bb
  go_wp2
  go_ret
  exact ⟨rfl, B1.out⟩

set_option maxHeartbeats 1000000 in
set_option maxRecDepth 100000 in
theorem walk_short (A B : Option Addr) (c d x y : Nat) (l m : List Nat) (w : World) (HA : Aside0 (FK.C w A l.length l)) (HB : Aside0 (FK.C w B m.length m)) (HL : Aside0 (All32 l)) (HM : Aside0 (All32 m)) (HX : Aside0 (x < 4294967296)) (HY : Aside0 (y < 4294967296)) (hn : l.length + m.length ≤ 1048576) :
    Calls Try.prog 6 #[.agg #[.slice A l.length c, .float .f32 x], .agg #[.slice B m.length d, .float .f32 y]] w fun e w' => e = .returned (.bool true) ∧ Below w.heap.size w w' := by
  have hl : ¬ (1048576 : Int) - (l.length : Int) < 0 := by omega
  have hl2 : ¬ (1048576 : Int) - (l.length : Int) - (m.length : Int) < 0 := by omega
  have hn1 : l.length ≤ 1048576 := by omega
  have hn2 : m.length ≤ 1048576 := by omega
  go_enter Try.func6, Try.ntmps6
  go_wp2_with fail
  refine (szScheme_any A l.length c x 1048576 _ (by omega) (by omega) (by omega)).mono ?_
  rw [if_pos (by omega)]
  rintro e w0 ⟨rfl, bb0⟩
  have q0 : ((w.alloc (.cells #[.slice A l.length c, .float .f32 x] 36)).alloc (.cells #[.slice B m.length d, .float .f32 y] 36)).cell? ⟨w.heap.size, 0, none⟩ = some (.slice A l.length c) := by simp
  have q1 : ((w.alloc (.cells #[.slice A l.length c, .float .f32 x] 36)).alloc (.cells #[.slice B m.length d, .float .f32 y] 36)).cell? ⟨w.heap.size, 1, none⟩ = some (.float .f32 x) := by simp
  have q2 : ((w.alloc (.cells #[.slice A l.length c, .float .f32 x] 36)).alloc (.cells #[.slice B m.length d, .float .f32 y] 36)).cell? ⟨w.heap.size + 1, 0, none⟩ = some (.slice B m.length d) := by simp
  have q3 : ((w.alloc (.cells #[.slice A l.length c, .float .f32 x] 36)).alloc (.cells #[.slice B m.length d, .float .f32 y] 36)).cell? ⟨w.heap.size + 1, 1, none⟩ = some (.float .f32 y) := by simp
  have HA0 := Aside0.mk (Kd.C_below (Kd.C_alloc (Kd.C_alloc HA.out _) _) bb0)
  have HB0 := Aside0.mk (Kd.C_below (Kd.C_alloc (Kd.C_alloc HB.out _) _) bb0)
  have B0 := Aside0.mk (Below.trans (below_alloc (below_alloc (Below.refl _ w) _) _) (bb0.mono (by simp; omega)))
  have y0 := cell_step q0 bb0
  have y1 := cell_step q1 bb0
  have y2 := cell_step q2 bb0
  have y3 := cell_step q3 bb0
  have X0 := Aside0.mk (And.intro y0 (And.intro y1 (And.intro y2 y3)))
  clear q0 q1 q2 q3 bb0
  go_wp2_with fail
  refine (szScheme_any B m.length d y (1048576 - l.length) _ (by omega) (by omega) (by omega)).mono ?_
  rw [if_pos (by omega)]
  rintro e w1 ⟨rfl, bb1⟩
  have HA1 := Aside0.mk (Kd.C_below HA0.out bb1)
  have HB1 := Aside0.mk (Kd.C_below HB0.out bb1)
  have B1 := Aside0.mk (Below.trans B0.out (bb1.mono B0.out.size))
  have X1 := Aside0.mk (cells4 X0.out bb1)
  have y0 := X1.out.1
  have y1 := X1.out.2.1
  have y2 := X1.out.2.2.1
  have y3 := X1.out.2.2.2
  clear bb1 X0 HA0 HB0
  go_wp2_with fail
  go_region_held3 (fun w' => w'.cell? ⟨w.heap.size, 0, none⟩ = some (.slice A l.length c) ∧ w'.cell? ⟨w.heap.size, 1, none⟩ = some (.float .f32 x) ∧ w'.cell? ⟨w.heap.size + 1, 0, none⟩ = some (.slice B m.length d) ∧ w'.cell? ⟨w.heap.size + 1, 1, none⟩ = some (.float .f32 y)) (first | exact X1.out | exact cells4 (cells4 (cells4 (w := w1.drew) X1.out bb2) bb3) bb4 | exact cells4 (cells4 (w := w1.drew) X1.out bb2) bb3 | exact cells4 (w := w1.drew) X1.out bb2)
    (first
      | (go_at_call_of 23 (Value.agg #[.slice A l.length c, .float .f32 x]); refine (toScheme_any A c x l _ (Kd.C_drew HA1.out) hn1).mono ?_; rintro e w2 ⟨v2, rfl, r2, bb2⟩; obtain ⟨A2, c2, rfl, hx2, k2⟩ := Kd.R_reads r2; have B2 := Aside0.mk (Below.trans (Below.drew B1.out) (bb2.mono B1.out.size)); have K2 := Aside0.mk k2; have HA2 := Aside0.mk (Kd.C_below (Kd.C_drew HA1.out) bb2); have HB2 := Aside0.mk (Kd.C_below (Kd.C_drew HB1.out) bb2); clear r2 k2 hx2)
      | (go_at_call_of 23 (Value.agg #[.slice B m.length d, .float .f32 y]); refine (toScheme_any B d y m _ HB2.out hn2).mono ?_; rintro e w3 ⟨v3, rfl, r3, bb3⟩; obtain ⟨A3, c3, rfl, hx3, k3⟩ := Kd.R_reads r3; have B3 := Aside0.mk (Below.trans B2.out (bb3.mono B2.out.size)); have K3 := Aside0.mk k3; have K2' := Aside0.mk (Kd.C_below K2.out bb3); have HA3 := Aside0.mk (Kd.C_below HA2.out bb3); have HB3 := Aside0.mk (Kd.C_below HB2.out bb3); clear r3 k3 hx3)
      | (go_at_call 26; refine (specSame_any A2 A3 c2 c3 x y l m _ K2'.out K3.out HL.out HM.out HX.out HY.out).mono ?_; rintro e w4 ⟨rfl, bb4⟩; have B4 := Aside0.mk (Below.trans B3.out (bb4.mono B3.out.size)); have HA4 := Aside0.mk (Kd.C_below HA3.out bb4); have HB4 := Aside0.mk (Kd.C_below HB3.out bb4); have X4 := Aside0.mk (cells4 (cells4 (cells4 (w := w1.drew) X1.out bb2) bb3) bb4)))
  clear X1 HA1 HB1 HA2 HB2 HA3 HB3 K2 K2' K3 bb2 bb3 bb4
  have y0 := X4.out.1
  have y1 := X4.out.2.1
  have y2 := X4.out.2.2.1
  have y3 := X4.out.2.2.2
  go_wp2_with fail
  refine (toScheme_any A c x l _ HA4.out hn1).mono ?_
  rintro e w5 ⟨v5, rfl, r5, bb5⟩
  obtain ⟨A5, c5, rfl, -, k5⟩ := Kd.R_reads r5
  have B5 := Aside0.mk (Below.trans B4.out (bb5.mono B4.out.size))
  have K5 := Aside0.mk k5
  have HA5 := Aside0.mk (Kd.C_below HA4.out bb5)
  have HB5 := Aside0.mk (Kd.C_below HB4.out bb5)
  have X5 := Aside0.mk (cells4 X4.out bb5)
  clear y0 y1 y2 y3
  have y0 := X5.out.1
  have y1 := X5.out.2.1
  have y2 := X5.out.2.2.1
  have y3 := X5.out.2.2.2
  have u0 := fun o => cell_alloc y0 o
  have u1 := fun o => cell_alloc y1 o
  have u2 := fun o => cell_alloc y2 o
  have u3 := fun o => cell_alloc y3 o
  clear r5 bb5 k5 HA4 HB4 X4
  go_wp2_with fail
  clear u0 u1 u2 u3
  refine (toScheme_any B d y m _ (Kd.C_alloc HB5.out _) hn2).mono ?_
  rintro e w6 ⟨v6, rfl, r6, bb6⟩
  obtain ⟨A6, c6, rfl, -, k6⟩ := Kd.R_reads r6
  have B6 := Aside0.mk (Below.trans (B5.out.alloc B5.out.size _) (bb6.mono (Nat.le_trans B5.out.size (by simp))))
  have K6 := Aside0.mk k6
  have K56 := Aside0.mk (Kd.C_below (Kd.C_alloc K5.out _) bb6)
  have HA6 := Aside0.mk (Kd.C_below (Kd.C_alloc HA5.out _) bb6)
  have HB6 := Aside0.mk (Kd.C_below (Kd.C_alloc HB5.out _) bb6)
  have X6 := Aside0.mk (cells4 (cells4 X5.out (below_alloc (Below.refl _ _) _)) bb6)
  have z0 : w6.cell? ⟨w5.heap.size, 0, none⟩ = some (.slice A5 l.length c5) := cell_step (by simp) bb6
  have z1 : w6.cell? ⟨w5.heap.size, 1, none⟩ = some (.float .f32 x) := cell_step (by simp) bb6
  have Z6 := Aside0.mk (And.intro z0 z1)
  clear y0 y1 y2 y3
  have y0 := X6.out.1
  have y1 := X6.out.2.1
  have y2 := X6.out.2.2.1
  have y3 := X6.out.2.2.2
  have u0 := fun o => cell_alloc z0 o
  have u1 := fun o => cell_alloc z1 o
  clear r6 bb6 k6 HA5 HB5 X5
  go_wp2_with fail
  clear u0 u1
  refine (SameScheme_any A5 A6 c5 c6 x y l m _ (Kd.C_alloc K56.out _) (Kd.C_alloc K6.out _) HL.out HM.out HX.out HY.out).mono ?_
  rintro e w7 ⟨rfl, bb7⟩
  have B7 := Aside0.mk (Below.trans (B6.out.alloc B6.out.size _) (bb7.mono (Nat.le_trans B6.out.size (by simp))))
  have K5' := Aside0.mk (Kd.C_below (Kd.C_alloc K56.out _) bb7)
  have K6' := Aside0.mk (Kd.C_below (Kd.C_alloc K6.out _) bb7)
  have HA7 := Aside0.mk (Kd.C_below (Kd.C_alloc HA6.out _) bb7)
  have HB7 := Aside0.mk (Kd.C_below (Kd.C_alloc HB6.out _) bb7)
  have z2 : w7.cell? ⟨w6.heap.size, 0, none⟩ = some (.slice A6 m.length c6) := cell_step (by simp) bb7
  have z3 : w7.cell? ⟨w6.heap.size, 1, none⟩ = some (.float .f32 y) := cell_step (by simp) bb7
  have z0' : w7.cell? ⟨w5.heap.size, 0, none⟩ = some (.slice A5 l.length c5) := cell_step (cell_alloc z0 _) bb7
  have z1' : w7.cell? ⟨w5.heap.size, 1, none⟩ = some (.float .f32 x) := cell_step (cell_alloc z1 _) bb7
  have y0' : w7.cell? ⟨w.heap.size, 0, none⟩ = _ := cell_step (cell_alloc y0 _) bb7
  have y1' : w7.cell? ⟨w.heap.size, 1, none⟩ = _ := cell_step (cell_alloc y1 _) bb7
  have y2' : w7.cell? ⟨w.heap.size + 1, 0, none⟩ = _ := cell_step (cell_alloc y2 _) bb7
  have y3' : w7.cell? ⟨w.heap.size + 1, 1, none⟩ = _ := cell_step (cell_alloc y3 _) bb7
  have S7 := Aside0.mk (And.intro z0' (And.intro z1' (And.intro y0' y1')))
  have T7 := Aside0.mk (And.intro z2 (And.intro z3 (And.intro y2' y3')))
  clear z0 z1 y0 y1 y2 y3 bb7 HA6 HB6 K6 K56 X6 Z6
  go_wp2_with fail
  go_region_held3 (fun w' => w'.cell? ⟨w5.heap.size, 0, none⟩ = some (.slice A5 l.length c5) ∧ w'.cell? ⟨w5.heap.size, 1, none⟩ = some (.float .f32 x) ∧ w'.cell? ⟨w.heap.size, 0, none⟩ = some (.slice A l.length c) ∧ w'.cell? ⟨w.heap.size, 1, none⟩ = some (.float .f32 x)) (first | exact S7.out | exact cells4 (cells4 (w := w7.drew) S7.out bb8) bb9 | exact cells4 (w := w7.drew) S7.out bb8)
    (first
      | (go_at_call 23; refine (toScheme_any A c x l _ (Kd.C_drew HA7.out) hn1).mono ?_; rintro e w8 ⟨v8, rfl, r8, bb8⟩; obtain ⟨A8, c8, rfl, hx8, k8⟩ := Kd.R_reads r8; have B8 := Aside0.mk (Below.trans (Below.drew B7.out) (bb8.mono B7.out.size)); have K8 := Aside0.mk k8; have KX8 := Aside0.mk (Kd.C_below (Kd.C_drew K5'.out) bb8); clear r8 k8 hx8)
      | (go_at_call 25; refine (eqScheme_any A5 A8 c5 c8 x x l l _ KX8.out K8.out (SimL.refl _) (Sim.refl _ _)).mono ?_; rintro e w9 ⟨rfl, bb9⟩; have B9 := Aside0.mk (Below.trans B8.out (bb9.mono B8.out.size)); have BB9 := Aside0.mk (Below.trans (Below.trans (Below.drew (Below.refl _ w7)) bb8) (bb9.mono (w := w8) (bb8.size)))))
  have HB9 := Aside0.mk (Kd.C_below HB7.out BB9.out)
  have K6'' := Aside0.mk (Kd.C_below K6'.out BB9.out)
  have S9 := Aside0.mk (cells4 T7.out BB9.out)
  have z2 := S9.out.1
  have z3 := S9.out.2.1
  have y2' := S9.out.2.2.1
  have y3' := S9.out.2.2.2
  clear bb8 bb9 HA7 HB7 K8 KX8 S7 T7 BB9
  go_wp2_with fail
  go_region_held3 (fun w' => w'.cell? ⟨w6.heap.size, 0, none⟩ = some (.slice A6 m.length c6) ∧ w'.cell? ⟨w6.heap.size, 1, none⟩ = some (.float .f32 y) ∧ w'.cell? ⟨(w.heap.size + 1), 0, none⟩ = some (.slice B m.length d) ∧ w'.cell? ⟨(w.heap.size + 1), 1, none⟩ = some (.float .f32 y)) (first | exact S9.out | exact cells4 (cells4 (w := w9.drew) S9.out bb10) bb11 | exact cells4 (w := w9.drew) S9.out bb10)
    (first
      | (go_at_call 23; refine (toScheme_any B d y m _ (Kd.C_drew HB9.out) hn2).mono ?_; rintro e w10 ⟨v10, rfl, r10, bb10⟩; obtain ⟨A10, c10, rfl, hx10, k10⟩ := Kd.R_reads r10; have B10 := Aside0.mk (Below.trans (Below.drew B9.out) (bb10.mono B9.out.size)); have K10 := Aside0.mk k10; have KX10 := Aside0.mk (Kd.C_below (Kd.C_drew K6''.out) bb10); clear r10 k10 hx10)
      | (go_at_call 25; refine (eqScheme_any A6 A10 c6 c10 y y m m _ KX10.out K10.out (SimL.refl _) (Sim.refl _ _)).mono ?_; rintro e w11 ⟨rfl, bb11⟩; have B11 := Aside0.mk (Below.trans B10.out (bb11.mono B10.out.size)); have BB11 := Aside0.mk (Below.trans (Below.trans (Below.drew (Below.refl _ w9)) bb10) (bb11.mono (w := w10) (bb10.size)))))
  go_wp2
  go_ret
  exact ⟨rfl, B11.out⟩
theorem walk (w : World) (A : Option Addr) (len c x : Nat) (l : List Nat) (hr0 : FK.C w A len l) (hl : All32 l) (hx : x < 4294967296) (B : Option Addr) (len' d y : Nat) (m : List Nat) (hr1 : FK.C w B len' m) (hm : All32 m) (hy : y < 4294967296) :
    Calls Try.prog 6 #[.agg #[.slice A len c, .float .f32 x], .agg #[.slice B len' d, .float .f32 y]] w fun e w' => e = .returned (.bool true) ∧ Below w.heap.size w w' := by
  obtain rfl := Kd.C_len hr0
  obtain rfl := Kd.C_len hr1
  have hmx := Kd.C_max hr0
  have hmy := Kd.C_max hr1
  rcases Nat.lt_or_ge 1048576 l.length with h | h
  · exact walk_long1 A B c d x y l m w hmx h
  · rcases Nat.lt_or_ge 1048576 (l.length + m.length) with h' | h'
    · exact walk_long2 A B c d x y l m w h hmy h'
    · exact walk_short A B c d x y l m w ⟨hr0⟩ ⟨hr1⟩ ⟨hl⟩ ⟨hm⟩ ⟨hx⟩ ⟨hy⟩ h'

theorem own : ownKnob Try.prog.godebug = none := by kernel_rfl

theorem laidOut : laidOutB Try.prog = true := by kernel_rfl

set_option maxRecDepth 100000 in
theorem lifted (os : Os) (started : os.Started) (H : Type) (enc : TypeId × Value → H) :
    ReturnsInHanded {} Try.checked os 6 .any (Rows.fnExactSameSchemeSpec.pre6 enc Try.prog Try.f6 Rows.fnExactSameSchemeRow.domain false) (Rows.fnExactSameSchemeSpec.post enc Try.prog Try.f6 false true false false) := by
  refine returnsInHanded_of_change (C := Try.checked) own started (by kernel_rfl) Try.func6
    (ChangeSpec.witness6 (enc := enc) (C := Try.checked) false ⟨#[], #[.agg #[.slice none 0 0, .float .f32 0], .agg #[.slice none 0 0, .float .f32 0]], []⟩ 8 (by kernel_rfl) (by kernel_rfl) (by kernel_rfl) (by kernel_rfl)) ?_
  intro W base args ds gs before hval0 hW _ _
  have hval : ∀ (j : Nat) t v, Try.f6.params[j]? = some t → args[j]? = some v → Value.okWide Try.prog W .any base t v := hval0
  have hW' := hW
  obtain ⟨p, q, hA0, hV, rfl, _, _⟩ := hW
  have hA : DataW.TrodAll enc Try.prog W 0 (fun _ => true) true Try.f6.params.toList args.toList ds p := hA0
  rw [Try.params6] at hA hval
  obtain ⟨v0, vs0, d0, ds0, p0, q0, hargs, rfl, rfl, h0, r0⟩ := trodAll_cons hA
  obtain ⟨v1, vs1, d1, ds1, p1, q1, rfl, rfl, rfl, h1, r1⟩ := trodAll_cons r0
  obtain ⟨rfl, rfl, rfl⟩ := trodAll_nil r1
  obtain rfl : args = #[v0, v1] := by cases args; simp_all
  obtain ⟨rfl, rfl⟩ := trodVars_none hV
  have k0 := h0
  have lt0 : ∀ x ∈ p0, x.block < W.heap.size := by obtain ⟨m, hm⟩ := k0; exact DataW.trod_lt m _ _ _ hm
  obtain ⟨a0, len0, cap0, x0, z0, rfl, c0, w0, g0⟩ := open_scheme Try.underlying36 Try.underlying27 Try.underlying34 (by kernel_rfl) Try.underlying34 rfl rfl (by kernel_rfl) (by kernel_rfl) (by kernel_rfl) (hval 0 36 v0 rfl rfl) h0
  have k1 := h1
  have lt1 : ∀ x ∈ p1, x.block < W.heap.size := by obtain ⟨m, hm⟩ := k1; exact DataW.trod_lt m _ _ _ hm
  obtain ⟨a1, len1, cap1, x1, z1, rfl, c1, w1, g1⟩ := open_scheme Try.underlying36 Try.underlying27 Try.underlying34 (by kernel_rfl) Try.underlying34 rfl rfl (by kernel_rfl) (by kernel_rfl) (by kernel_rfl) (hval 1 36 v1 rfl rfl) h1
  clear hA0 hval0
  simp only [List.append_nil] at hW'
  refine (walk W a0 len0 cap0 x0 z0 c0 w0 g0 a1 len1 cap1 x1 z1 c1 w1 g1).mono fun e W' ⟨he, bel⟩ => ?_
  subst he
  exact ⟨_, rfl, _, _, _, [], _, [], hW', trodAll_mk1 (shut_bool Try.underlying4 _), (trodAll_cons_mk (Below.trod laidOut (by kernel_rfl) (of_decide_eq_true (by kernel_rfl)) k0 bel lt0) (trodAll_cons_mk (Below.trod laidOut (by kernel_rfl) (of_decide_eq_true (by kernel_rfl)) k1 bel lt1) trodAll_mk0)), rfl, bel.frame _, fun h => by cases h⟩

theorem over : Rows.fnExactSameSchemeRow.holds Try.pinned (OpenSpec.ofChange Rows.fnExactSameSchemeSpec) :=
  OpenClaim.holds_of_wide 6 Try.f6 rfl rfl rfl rfl rfl rfl rfl ⟨rfl, rfl, rfl, rfl, rfl⟩ rfl rfl rfl rfl rfl (by kernel_rfl) Try.func6 (by kernel_rfl)
    (of_decide_eq_true (by kernel_rfl)) (by unfold Func.isWrapper; first | (rw [if_pos (by decide +kernel)]; kernel_rfl) | (rw [if_neg (by decide +kernel)]; exact ⟨rfl, rfl⟩))
    (fun os started H enc _ => lifted os started H enc)

theorem proved : Rows.FnExactSameSchemeSaid :=
  over
#print axioms proved
end Go.Proofs.Ytbpjkghbkjdodaa.fnExactSameScheme
