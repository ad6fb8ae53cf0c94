/- The walk of the law FnCircles: it returns true for all bytes. No condition. -/
import Derived.Test.YtdbcjldengemeaaCirC
import Derived.Test.YtdbcjldengemeaaRowF
import Derived.Test.YtdbcjldengemeaaRowU
import Derived.Test.YtdbcjldengemeaaPFnCirclesx1
namespace Go.Proofs.Ytdbcjldengemeaa.CirW
open Go.RowKit Go.Proofs.YtdbcjldengemeaaW.PrintWords Go.Proofs.YtdbcjldengemeaaW.PrintLast Go.Proofs.YtdbcjldengemeaaW.PrintMore Fl Ieee Cir Go.Proofs.Ytdbcjldengemeaa.PFnCircles
set_option linter.unusedVariables false
set_option linter.unusedSimpArgs false
set_option maxHeartbeats 8000000 in
set_option maxRecDepth 100000 in
theorem walk_long (A0 : Option Addr) (c0 : Nat) (l0 : List Int) (A1 : Option Addr) (c1 : Nat) (l1 : List Int) (W : World) (h0 : Kd.C (Kd.int .u8) W A0 l0.length l0) (hc0 : l0.length ≤ c0) (h1 : Kd.C (Kd.int .u8) W A1 l1.length l1) (hc1 : l1.length ≤ c1)
    (hl : laws_b10Long.f l0 l1 = some true) :
    Calls Try.prog 3 #[.slice A0 l0.length c0, .slice A1 l1.length c1] W fun e w' => e = .returned (.bool true) ∧ Below W.heap.size W w' := by
  have HB := Aside0.mk (Below.refl W.heap.size W)
  go_enter Try.func3, Try.ntmps3
  go_wp2_with fail
  refine (laws_b10Long.calls A0 c0 l0 A1 c1 l1 true _ h0 hc0 h1 hc1 hl).mono ?_
  rintro e w1 ⟨rfl, ⟨nd_, hd⟩⟩
  have HB1 := Aside0.mk (drawn_grown HB.out ⟨nd_, hd⟩)
  clear hd
  go_wp2
  go_ret
  exact ⟨rfl, (by repeat (first | (with_reducible first | exact HB1.out | apply below_alloc | apply pw_below_drewN | apply below_drew1) | exact HB1.out))⟩
set_option maxHeartbeats 32000000 in
set_option maxRecDepth 100000 in
theorem walk_core (A0 : Option Addr) (c0 : Nat) (l0 : List Int) (A1 : Option Addr) (c1 : Nat) (l1 : List Int) (W : World) (h0 : Kd.C (Kd.int .u8) W A0 l0.length l0) (hc0 : l0.length ≤ c0) (h1 : Kd.C (Kd.int .u8) W A1 l1.length l1) (hc1 : l1.length ≤ c1)
    (hl : laws_b10Long.f l0 l1 = some false)
    (na nb nk nl : Int) (ena : laws_b10At.f l0 0 256 = some na) (enb : laws_b10At.f l0 1 256 = some nb) (enk : laws_b10At.f l1 0 200 = some nk) (enl : laws_b10At.f l1 1 200 = some nl)
    (A B C K1 K2 h h' m n o s1 d1 s2 d2 : Int) (g1 : wrap64 (na - 128) = A) (g2 : wrap64 (nb - 128) = B) (g3 : wrap64 (A + B) = C) (g4 : wrap64 (h - 10000) = h') (g5 : Int.tmod h' 64 = 0)
    (g6 : wrap64 (m + n) = s1) (g7 : wrap64 (s1 - o) = d1) (g8 : wrap64 (o - m) = s2) (g9 : wrap64 (s2 - n) = d2) (hd1 : decide (d1 ≤ 1) = true) (hd2 : decide (d2 ≤ 1) = true) (g10 : wrap64 (1 + nk) = K1) (g11 : wrap64 (1 + nl) = K2)
    (fA fB fC yA yB yC p1 p2 q1 q2 r1 r2 an anw m1 S U fh P PW u v p1w fk fl xk xl z : Nat) (z16 : Bool)
    (j1 : floatOfInt .f64 A = fA) (j2 : floatOfInt .f64 B = fB) (j3 : floatOfInt .f64 C = fC) (j4 : floatOfInt .f64 h' = fh) (j5 : floatOfInt .f32 K1 = fk) (j6 : floatOfInt .f32 K2 = fl)
    (k1 : ∀ w, fres .quo .f64 fA sixty4 w = yA) (k2 : ∀ w, fres .quo .f64 fB sixty4 w = yB) (k3 : ∀ w, fres .quo .f64 fC sixty4 w = yC)
    (k4 : ∀ w, cres .f32 an .f64 w = anw) (k5 : ∀ w, fres .mul .f64 anw sixty4 w = m1) (k6 : ∀ w, fres .sub .f64 m1 fA w = S) (k7 : ∀ w, fres .add .f64 S tenK w = U) (k8 : ∀ w, ires .f64 U .i64 w = h)
    (k9 : ∀ w, cres .f32 P .f64 w = PW) (k10 : ∀ w, cres .f32 p1 .f64 w = p1w) (k11 : ∀ w, fres .quo .f32 fk 1090519040 w = xk) (k12 : ∀ w, fres .quo .f32 fl 1090519040 w = xl) (k13 : ∀ w, fres .mul .f32 xk xl w = z)
    (hz16 : (Int.tmod A 16 == 0) = z16)
    (HP1 : RowKit.Hid (∀ w, Calls Try.prog 6 #[.float .f64 yA] w fun e w' => e = .returned (.complex .f32 p1 p2) ∧ ∃ n, w' = w.drewN n))
    (HP2 : RowKit.Hid (∀ w, Calls Try.prog 6 #[.float .f64 yB] w fun e w' => e = .returned (.complex .f32 q1 q2) ∧ ∃ n, w' = w.drewN n))
    (HP3 : RowKit.Hid (∀ w, Calls Try.prog 6 #[.float .f64 yC] w fun e w' => e = .returned (.complex .f32 r1 r2) ∧ ∃ n, w' = w.drewN n))
    (HAng : RowKit.Hid (∀ w, Calls Try.prog 7 #[.complex .f32 p1 p2] w fun e w' => e = .returned (.float .f32 an) ∧ ∃ n, w' = w.drewN n))
    (HPow : RowKit.Hid (∀ w, Calls Try.prog 9 #[.complex .f32 p1 p2] w fun e w' => e = .returned (.float .f32 P) ∧ ∃ n, w' = w.drewN n))
    (HMul : RowKit.Hid (∀ w, Calls Try.prog 11 #[.complex .f32 p1 p2, .complex .f32 q1 q2] w fun e w' => e = .returned (.complex .f32 u v) ∧ ∃ n, w' = w.drewN n))
    (HNear : RowKit.Hid (∀ w, Calls Try.prog 10 #[.complex .f32 u v, .complex .f32 r1 r2, .float .f64 most64] w fun e w' => e = .returned (.bool true) ∧ ∃ n, w' = w.drewN n))
    (HT1 : RowKit.Hid (∀ w, Calls Try.prog 12 #[.float .f32 xk] w fun e w' => e = .returned (.tuple #[.int .i64 m, .bool true]) ∧ ∃ n, w' = w.drewN n))
    (HT2 : RowKit.Hid (∀ w, Calls Try.prog 12 #[.float .f32 xl] w fun e w' => e = .returned (.tuple #[.int .i64 n, .bool true]) ∧ ∃ n, w' = w.drewN n))
    (HT3 : RowKit.Hid (∀ w, Calls Try.prog 12 #[.float .f32 z] w fun e w' => e = .returned (.tuple #[.int .i64 o, .bool true]) ∧ ∃ n, w' = w.drewN n))
    (HT4 : RowKit.Hid (∀ w, Calls Try.prog 12 #[.float .f32 1065353216] w fun e w' => e = .returned (.tuple #[.int .i64 0, .bool true]) ∧ ∃ n, w' = w.drewN n))
    (HAi : RowKit.Hid (∀ w, Calls Try.prog 7 #[.complex .f32 0 1065353216] w fun e w' => e = .returned (.float .f32 1048576000) ∧ ∃ n, w' = w.drewN n))
    (HSame : RowKit.Hid (∀ w, Calls Try.prog 13 #[.float .f32 1048576000, .float .f32 0] w fun e w' => e = .returned (.bool false) ∧ ∃ n, w' = w.drewN n))
    (HG1 : RowKit.Hid (notGt (gapF PW 4607182418800017408) most64 = true))
    (HG2 : RowKit.Hid (notGt (gapF S fh) thou = true))
    (HG3 : RowKit.Hid (z16 = true → ((FloatKind.f64.format.order (gapF p1w 0) 0 == some .eq) || (FloatKind.f64.format.order (gapF p1w 0) 4607182418800017408 == some .eq)) = true)) :
    Calls Try.prog 3 #[.slice A0 l0.length c0, .slice A1 l1.length c1] W fun e w' => e = .returned (.bool true) ∧ Below W.heap.size W w' := by
  have C0 := Aside0.mk h0
  have C1 := Aside0.mk h1
  have HL := Aside0.mk hl
  have Ea := Aside0.mk ena
  have Eb := Aside0.mk enb
  have Ek := Aside0.mk enk
  have El := Aside0.mk enl
  clear h0 h1 hl ena enb enk enl
  have HB := Aside0.mk (Below.refl W.heap.size W)
  go_enter Try.func3, Try.ntmps3
  go_wp2_with fail
  refine (laws_b10Long.calls A0 c0 l0 A1 c1 l1 false _ C0.out hc0 C1.out hc1 HL.out).mono ?_
  rintro e w_1 ⟨rfl, ⟨nd_, hd⟩⟩
  have HB1 := Aside0.mk (drawn_grown HB.out ⟨nd_, hd⟩)
  clear hd
  go_wp2_with fail
  refine (laws_b10At.calls A0 c0 l0 0 256 na _ (Kd.C_below C0.out (by repeat (first | (with_reducible first | exact HB1.out | apply below_alloc | apply pw_below_drewN | apply below_drew1) | exact HB1.out))) hc0 Ea.out).mono ?_
  rintro e w_2 ⟨rfl, ⟨nd_, hd⟩⟩
  have HB2 := Aside0.mk (drawn_grown (by repeat (first | (with_reducible first | exact HB1.out | apply below_alloc | apply pw_below_drewN | apply below_drew1) | exact HB1.out)) ⟨nd_, hd⟩)
  clear hd
  go_wp2_with fail
  refine (laws_b10At.calls A0 c0 l0 1 256 nb _ (Kd.C_below C0.out (by repeat (first | (with_reducible first | exact HB2.out | apply below_alloc | apply pw_below_drewN | apply below_drew1) | exact HB2.out))) hc0 Eb.out).mono ?_
  rintro e w_3 ⟨rfl, ⟨nd_, hd⟩⟩
  have HB3 := Aside0.mk (drawn_grown (by repeat (first | (with_reducible first | exact HB2.out | apply below_alloc | apply pw_below_drewN | apply below_drew1) | exact HB2.out)) ⟨nd_, hd⟩)
  clear hd
  go_wp2_with fail
  refine (HP1.out _).mono ?_
  rintro e w_4 ⟨rfl, hd⟩
  have HB4 := Aside0.mk (drawn_grown (by repeat (first | (with_reducible first | exact HB3.out | apply below_alloc | apply pw_below_drewN | apply below_drew1) | exact HB3.out)) hd)
  clear hd
  go_wp2_with fail
  refine (HP2.out _).mono ?_
  rintro e w_5 ⟨rfl, hd⟩
  have HB5 := Aside0.mk (drawn_grown (by repeat (first | (with_reducible first | exact HB4.out | apply below_alloc | apply pw_below_drewN | apply below_drew1) | exact HB4.out)) hd)
  clear hd
  go_wp2_with fail
  refine (HP3.out _).mono ?_
  rintro e w_6 ⟨rfl, hd⟩
  have HB6 := Aside0.mk (drawn_grown (by repeat (first | (with_reducible first | exact HB5.out | apply below_alloc | apply pw_below_drewN | apply below_drew1) | exact HB5.out)) hd)
  clear hd
  go_wp2_with fail
  refine (HAng.out _).mono ?_
  rintro e w_7 ⟨rfl, hd⟩
  have HB7 := Aside0.mk (drawn_grown (by repeat (first | (with_reducible first | exact HB6.out | apply below_alloc | apply pw_below_drewN | apply below_drew1) | exact HB6.out)) hd)
  clear hd
  go_wp2_with fail
  refine (HPow.out _).mono ?_
  rintro e w_8 ⟨rfl, hd⟩
  have HB8 := Aside0.mk (drawn_grown (by repeat (first | (with_reducible first | exact HB7.out | apply below_alloc | apply pw_below_drewN | apply below_drew1) | exact HB7.out)) hd)
  clear hd
  go_wp2_with fail
  refine (b10Gap_any PW 4607182418800017408 _).mono ?_
  rintro e w_9 ⟨g_8, rfl, hg, hd⟩
  have HB9 := Aside0.mk (drawn_grown (by repeat (first | (with_reducible first | exact HB8.out | apply below_alloc | apply pw_below_drewN | apply below_drew1) | exact HB8.out)) hd)
  have e1 : (FloatKind.f64.format.order g_8 most64 == some .gt) = false := by rw [order_congr hg (Sim.refl ..)]; have := HG1.out; unfold notGt at this; simpa using this
  clear hd hg
  go_wp2_with fail
  refine (HMul.out _).mono ?_
  rintro e w_10 ⟨rfl, hd⟩
  have HB10 := Aside0.mk (drawn_grown (by repeat (first | (with_reducible first | exact HB9.out | apply below_alloc | apply pw_below_drewN | apply below_drew1) | exact HB9.out)) hd)
  clear hd
  go_wp2_with fail
  refine (HNear.out _).mono ?_
  rintro e w_11 ⟨rfl, hd⟩
  have HB11 := Aside0.mk (drawn_grown (by repeat (first | (with_reducible first | exact HB10.out | apply below_alloc | apply pw_below_drewN | apply below_drew1) | exact HB10.out)) hd)
  clear hd
  go_wp2_with fail
  refine (b10Gap_any S fh _).mono ?_
  rintro e w_12 ⟨g_11, rfl, hg, hd⟩
  have HB12 := Aside0.mk (drawn_grown (by repeat (first | (with_reducible first | exact HB11.out | apply below_alloc | apply pw_below_drewN | apply below_drew1) | exact HB11.out)) hd)
  have e2 : (FloatKind.f64.format.order g_11 thou == some .gt) = false := by rw [order_congr hg (Sim.refl ..)]; have := HG2.out; unfold notGt at this; simpa using this
  clear hd hg
  obtain ⟨g0, hg0⟩ : ∃ b, (FloatKind.f64.format.order (gapF p1w 0) 0 == some .eq) = b := ⟨_, rfl⟩
  have HG0 := Lib.hid hg0
  clear hg0
  cases z16
  case' false =>
    have HBx := HB12
    go_wp2_with fail
  case' true =>
    go_wp2_with fail
    refine (b10Gap_any p1w 0 _).mono ?_
    rintro e w_y ⟨g_y, rfl, hg, hd⟩
    have HBy := Aside0.mk (drawn_grown (by repeat (first | (with_reducible first | exact HB12.out | apply below_alloc | apply pw_below_drewN | apply below_drew1) | exact HB12.out)) hd)
    have e3 : (FloatKind.f64.format.order g_y 0 == some .eq) = g0 := by rw [order_congr hg (Sim.refl ..)]; exact HG0.out
    clear hd hg
    have e3' : (FloatKind.f64.format.order g_y 0 != some .eq) = !g0 := by unfold bne; rw [e3]
    clear e3
    cases g0
    case' true =>
      simp only [Bool.not_true] at e3'
      have HBx := HBy
      go_wp2_with fail
    case' false =>
      simp only [Bool.not_false] at e3'
      go_wp2_with fail
      refine (b10Gap_any p1w 0 _).mono ?_
      rintro e w_z ⟨g_z, rfl, hg, hd⟩
      have HBx := Aside0.mk (drawn_grown (by repeat (first | (with_reducible first | exact HBy.out | apply below_alloc | apply pw_below_drewN | apply below_drew1) | exact HBy.out)) hd)
      have e4 : (FloatKind.f64.format.order g_z 4607182418800017408 == some .eq) = true := by
        rw [order_congr hg (Sim.refl ..)]
        have h3 := HG3.out (by first | rfl | trivial)
        rw [HG0.out] at h3
        simpa using h3
      have e4' : (FloatKind.f64.format.order g_z 4607182418800017408 != some .eq) = false := by unfold bne; rw [e4]; rfl
      clear hd hg e4
      go_wp2_with fail
  all_goals
    have HB40 := HBx
    refine (laws_b10At.calls A1 c1 l1 0 200 nk _ (Kd.C_below C1.out (by repeat (first | (with_reducible first | exact HB40.out | apply below_alloc | apply pw_below_drewN | apply below_drew1) | exact HB40.out))) hc1 Ek.out).mono ?_
    rintro e w_41 ⟨rfl, ⟨nd_, hd⟩⟩
    have HB41 := Aside0.mk (drawn_grown (by repeat (first | (with_reducible first | exact HB40.out | apply below_alloc | apply pw_below_drewN | apply below_drew1) | exact HB40.out)) ⟨nd_, hd⟩)
    clear hd
    go_wp2_with fail
    refine (laws_b10At.calls A1 c1 l1 1 200 nl _ (Kd.C_below C1.out (by repeat (first | (with_reducible first | exact HB41.out | apply below_alloc | apply pw_below_drewN | apply below_drew1) | exact HB41.out))) hc1 El.out).mono ?_
    rintro e w_42 ⟨rfl, ⟨nd_, hd⟩⟩
    have HB42 := Aside0.mk (drawn_grown (by repeat (first | (with_reducible first | exact HB41.out | apply below_alloc | apply pw_below_drewN | apply below_drew1) | exact HB41.out)) ⟨nd_, hd⟩)
    clear hd
    go_wp2_with fail
    refine (HT1.out _).mono ?_
    rintro e w_43 ⟨rfl, hd⟩
    have HB43 := Aside0.mk (drawn_grown (by repeat (first | (with_reducible first | exact HB42.out | apply below_alloc | apply pw_below_drewN | apply below_drew1) | exact HB42.out)) hd)
    clear hd
    go_wp2_with fail
    refine (HT2.out _).mono ?_
    rintro e w_44 ⟨rfl, hd⟩
    have HB44 := Aside0.mk (drawn_grown (by repeat (first | (with_reducible first | exact HB43.out | apply below_alloc | apply pw_below_drewN | apply below_drew1) | exact HB43.out)) hd)
    clear hd
    go_wp2_with fail
    refine (HT3.out _).mono ?_
    rintro e w_45 ⟨rfl, hd⟩
    have HB45 := Aside0.mk (drawn_grown (by repeat (first | (with_reducible first | exact HB44.out | apply below_alloc | apply pw_below_drewN | apply below_drew1) | exact HB44.out)) hd)
    clear hd
    go_wp2_with fail
    refine (HT4.out _).mono ?_
    rintro e w_46 ⟨rfl, hd⟩
    have HB46 := Aside0.mk (drawn_grown (by repeat (first | (with_reducible first | exact HB45.out | apply below_alloc | apply pw_below_drewN | apply below_drew1) | exact HB45.out)) hd)
    clear hd
    go_wp2_with fail
    refine (HAi.out _).mono ?_
    rintro e w_47 ⟨rfl, hd⟩
    have HB47 := Aside0.mk (drawn_grown (by repeat (first | (with_reducible first | exact HB46.out | apply below_alloc | apply pw_below_drewN | apply below_drew1) | exact HB46.out)) hd)
    clear hd
    go_wp2_with fail
    refine (HSame.out _).mono ?_
    rintro e w_48 ⟨rfl, hd⟩
    have HB48 := Aside0.mk (drawn_grown (by repeat (first | (with_reducible first | exact HB47.out | apply below_alloc | apply pw_below_drewN | apply below_drew1) | exact HB47.out)) hd)
    clear hd
    go_wp2
    go_ret
    exact ⟨rfl, (by repeat (first | (with_reducible first | exact HB48.out | apply below_alloc | apply pw_below_drewN | apply below_drew1) | exact HB48.out))⟩
end Go.Proofs.Ytdbcjldengemeaa.CirW
