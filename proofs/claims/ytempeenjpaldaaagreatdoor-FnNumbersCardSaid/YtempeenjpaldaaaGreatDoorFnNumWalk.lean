/- The walk of the law FnNumbers: it returns true for all bytes. Its condition: the library's variables hold what the text lays. -/
import Derived.Test.YtempeenjpaldaaaGreatDoorPDraw
import Derived.Test.YtempeenjpaldaaaGreatDoorPRound
import Derived.Test.YtempeenjpaldaaaGreatDoorNumsA
import Derived.Test.YtempeenjpaldaaaGreatDoorLaidR
namespace Go.Proofs.YtempeenjpaldaaaGreatDoor.NumsW
open Go.RowKit Go.Proofs.YtempeenjpaldaaaGreatDoorW.PrintWords Go.Proofs.YtempeenjpaldaaaGreatDoorW.PrintLast Go.Proofs.YtempeenjpaldaaaGreatDoorW.PrintMore Fl Ieee SNum
set_option linter.unusedVariables false
set_option linter.unusedSimpArgs false
set_option maxHeartbeats 8000000 in
set_option maxRecDepth 100000 in
theorem walk_long (A0 : Option Addr) (c0 : Nat) (l0 : List Int) (A1 : Option Addr) (c1 : Nat) (l1 : List Int) (W : World) (h0 : Kd.C (Kd.int .u8) W A0 l0.length l0) (hc0 : l0.length ≤ c0) (h1 : Kd.C (Kd.int .u8) W A1 l1.length l1) (hc1 : l1.length ≤ c1)
    (hl : SZ.laws_b10Long.f l0 l1 = some true) :
    Calls Tryz.prog 3 #[.slice A0 l0.length c0, .slice A1 l1.length c1] W fun e w' => e = .returned (.bool true) ∧ Below W.heap.size W w' := by
  have HB := Aside0.mk (Below.refl W.heap.size W)
  go_enter Tryz.func3, Tryz.ntmps3
  go_wp2_with fail
  refine (SZ.laws_b10Long.calls A0 c0 l0 A1 c1 l1 true _ h0 hc0 h1 hc1 hl).mono ?_
  rintro e w1 ⟨rfl, ⟨nd_, hd⟩⟩
  have HB1 := Aside0.mk (drawn_grown HB.out ⟨nd_, hd⟩)
  clear hd
  go_wp2
  go_ret
  exact ⟨rfl, (by repeat (first | (with_reducible first | exact HB1.out | apply below_alloc | apply pw_below_drewN | apply below_drew1) | exact HB1.out))⟩
set_option maxHeartbeats 16000000 in
set_option maxRecDepth 100000 in
theorem walk_short (A0 : Option Addr) (c0 : Nat) (l0 : List Int) (A1 : Option Addr) (c1 : Nat) (l1 : List Int) (W : World) (h0 : Kd.C (Kd.int .u8) W A0 l0.length l0) (hc0 : l0.length ≤ c0) (h1 : Kd.C (Kd.int .u8) W A1 l1.length l1) (hc1 : l1.length ≤ c1)
    (hl : SZ.laws_b10Long.f l0 l1 = some false) (HT : TR W)
    (x : Nat) (hx : x < 4294967296) (ex : SZ.spec_B10Number.f l0 = some (x : Int)) (y : Nat) (hy : y < 4294967296) (ey : SZ.spec_B10Number.f l1 = some (y : Int))
    (n : Nat) (en : SZ.laws_b10At.f l0 0 12 = some (n : Int)) (xs : List Int) (exs : SZ.spec_B10Numbers.f 1000 l1 n = some xs) (hxs : xs.length ≤ 256)
    (t : ByteArray) (et : impl_NumbersText.f 100000 xs = some (t, true)) (ys : List Int) (er : impl_ReadNumbers.f 100000 t = some (ys, true)) (hys : ys.length = xs.length)
    (hsame : ∀ j : Nat, j < xs.length → ∃ p q : Nat, rd ys (j : Int) = p ∧ rd xs (j : Int) = q ∧ p < 4294967296 ∧ q < 4294967296 ∧ sameB p q = true)
    (T : Nat) (hT : T < 4294967296) (hA : ∀ w, Calls Tryz.prog 17 #[.float .f32 y, .float .f32 x] w fun e w' => ∃ r, e = .returned (.float .f32 r) ∧ Sim .f32 r T ∧ ∃ n, w' = w.drewN n) :
    Calls Tryz.prog 3 #[.slice A0 l0.length c0, .slice A1 l1.length c1] W fun e w' => e = .returned (.bool true) ∧ Below W.heap.size W w' := by
  obtain ⟨m, hm⟩ : ∃ m : Nat, bitsN x = (m : Int) := ⟨(bitsN x).toNat, by have := bitsN_range hx; omega⟩
  have hm2 : m < 4294967296 := by have := bitsN_range hx; omega
  have hs1 : sameB m x = true := by have := NumsA.same_bits x; rw [hm, Int.toNat_natCast] at this; exact this
  obtain ⟨hz1, hz2⟩ := NumsA.flush_sub hx
  have hz3 := NumsA.flush_same x
  obtain ⟨z, hz⟩ : ∃ z, flushF x = z := ⟨_, rfl⟩
  rw [hz] at hz1 hz2 hz3
  have HBits := Lib.hid (show ∀ w, Calls Tryz.prog 8 #[.float .f32 x] w fun e w' => e = .returned (.int .i64 (m : Int)) ∧ w = w' from fun w => by have h_ := BitsOf_any x hx w; rw [hm] at h_; exact h_)
  have HFrom := Lib.hid (show ∀ w, Calls Tryz.prog 7 #[.int .i64 (m : Int)] w fun e w' => e = .returned (.tuple #[.float .f32 m, .bool true]) ∧ w = w' from fun w => NumsA.FromBits_yes m hm2 w)
  have HFlush := Lib.hid (show ∀ w, Calls Tryz.prog 9 #[.float .f32 x] w fun e w' => e = .returned (.float .f32 z) ∧ ∃ n, w' = w.drewN n from fun w => by have h_ := FlushNumber_any x hx w; rw [hz] at h_; exact h_)
  have HS1 := Lib.hid (show ∀ w, Calls Tryz.prog 15 #[.float .f32 m, .float .f32 x] w fun e w' => e = .returned (.bool true) ∧ w = w' from fun w => by have h_ := NumsA.SameNumber_any m x hm2 hx w; rw [hs1] at h_; exact h_)
  have HSubz := Lib.hid (show ∀ w, Calls Tryz.prog 16 #[.float .f32 z] w fun e w' => e = .returned (.bool false) ∧ ∃ n, w' = w.drewN n from fun w => by have h_ := IsSubnormal_any z hz2 w; rw [hz1] at h_; exact h_)
  obtain ⟨sb, hsb⟩ : ∃ b, subB x = b := ⟨_, rfl⟩
  obtain ⟨sc, hsc⟩ : ∃ b, sameB x z = b := ⟨_, rfl⟩
  have HSubx := Lib.hid (show ∀ w, Calls Tryz.prog 16 #[.float .f32 x] w fun e w' => e = .returned (.bool sb) ∧ ∃ n, w' = w.drewN n from fun w => by have h_ := IsSubnormal_any x hx w; rw [hsb] at h_; exact h_)
  have HS2 := Lib.hid (show ∀ w, Calls Tryz.prog 15 #[.float .f32 x, .float .f32 z] w fun e w' => e = .returned (.bool sc) ∧ w = w' from fun w => by have h_ := NumsA.SameNumber_any x z hx hz2 w; rw [hsc] at h_; exact h_)
  rw [hsb, hsc] at hz3
  have HX := Lib.hid hx
  have HAng := Lib.hid hA
  have HTT := Lib.hid hT
  have HSame := Lib.hid hsame
  have HT0 := Aside0.mk HT
  have C0 := Aside0.mk h0
  have C1 := Aside0.mk h1
  have Ex := Aside0.mk ex
  have Ey := Aside0.mk ey
  have En := Aside0.mk en
  have Exs := Aside0.mk exs
  have Et := Aside0.mk et
  have Er := Aside0.mk er
  have HL := Aside0.mk hl
  have Hys := Aside0.mk hys
  have Hxs := Aside0.mk hxs
  clear hx hm hm2 hs1 hz hz1 hz2 hsb hsc hA hT hsame HT h0 h1 ex ey en exs et er hl hys hxs hy
  have HB := Aside0.mk (Below.refl W.heap.size W)
  go_enter Tryz.func3, Tryz.ntmps3
  go_wp2_with fail
  refine (SZ.laws_b10Long.calls A0 c0 l0 A1 c1 l1 false _ C0.out hc0 C1.out hc1 HL.out).mono ?_
  rintro e w1 ⟨rfl, ⟨nd_, hd⟩⟩
  have HB1 := Aside0.mk (drawn_grown HB.out ⟨nd_, hd⟩)
  clear hd
  go_wp2_with fail
  refine (SZ.spec_B10Number.calls A0 c0 l0 (x : Int) _ (Kd.C_below C0.out (by repeat (first | (with_reducible first | exact HB1.out | apply below_alloc | apply pw_below_drewN | apply below_drew1) | exact HB1.out))) hc0 Ex.out).mono ?_
  rintro e w2 ⟨rfl, hb⟩
  have HB2 := Aside0.mk (below_step (by repeat (first | (with_reducible first | exact HB1.out | apply below_alloc | apply pw_below_drewN | apply below_drew1) | exact HB1.out)) hb)
  clear hb
  go_wp2_with fail
  refine (SZ.spec_B10Number.calls A1 c1 l1 (y : Int) _ (Kd.C_below C1.out (by repeat (first | (with_reducible first | exact HB2.out | apply below_alloc | apply pw_below_drewN | apply below_drew1) | exact HB2.out))) hc1 Ey.out).mono ?_
  rintro e w3 ⟨rfl, hb⟩
  have HB3 := Aside0.mk (below_step (by repeat (first | (with_reducible first | exact HB2.out | apply below_alloc | apply pw_below_drewN | apply below_drew1) | exact HB2.out)) hb)
  clear hb
  go_wp2_with fail
  refine (HBits.out _).mono ?_
  rintro e w4 ⟨rfl, rfl⟩
  go_wp2_with fail
  refine (HFrom.out _).mono ?_
  rintro e w5 ⟨rfl, rfl⟩
  go_wp2_with fail
  refine (HFlush.out _).mono ?_
  rintro e w6 ⟨rfl, hd⟩
  have HB4 := Aside0.mk (drawn_grown (by repeat (first | (with_reducible first | exact HB3.out | apply below_alloc | apply pw_below_drewN | apply below_drew1) | exact HB3.out)) hd)
  clear hd
  go_wp2_with fail
  refine (SZ.laws_b10At.calls A0 c0 l0 0 12 (n : Int) _ (Kd.C_below C0.out (by repeat (first | (with_reducible first | exact HB4.out | apply below_alloc | apply pw_below_drewN | apply below_drew1) | exact HB4.out))) hc0 En.out).mono ?_
  rintro e w7 ⟨rfl, ⟨nd2_, hd⟩⟩
  have HB5 := Aside0.mk (drawn_grown (by repeat (first | (with_reducible first | exact HB4.out | apply below_alloc | apply pw_below_drewN | apply below_drew1) | exact HB4.out)) ⟨nd2_, hd⟩)
  clear hd
  go_wp2_with fail
  refine (SZ.spec_B10Numbers.calls 1000 A1 c1 l1 (n : Int) xs _ (Kd.C_below C1.out (by repeat (first | (with_reducible first | exact HB5.out | apply below_alloc | apply pw_below_drewN | apply below_drew1) | exact HB5.out))) hc1 Exs.out).mono ?_
  rintro e w8 ⟨v8, rfl, hr, hb⟩
  have HB6 := Aside0.mk (below_step (by repeat (first | (with_reducible first | exact HB5.out | apply below_alloc | apply pw_below_drewN | apply below_drew1) | exact HB5.out)) hb)
  obtain ⟨A, c, rfl, hcap, hC⟩ := Kd.R_reads hr
  have CL := Aside0.mk hC
  have TR8 := Aside0.mk (TR.on HT0.out HB6.out)
  have HBa := Aside0.mk (Below.refl w8.heap.size w8)
  clear hb hr hC
  obtain ⟨N, hN⟩ : ∃ N, N = xs.length := ⟨_, rfl⟩
  have HN := Aside0.mk hN
  have CF : Aside0 (FK.C w8 A N (xs.map Int.toNat)) := ⟨by rw [hN]; have := C_nat CL.out; exact this⟩
  have hN256 : N ≤ 256 := by rw [hN]; exact Hxs.out
  rw [← hN] at hcap ⊢
  clear hN
  go_wp2
  go_loopw [11, 41] (fun vs vc w' => ∃ (s j : Nat), vs = .float .f32 s ∧ vc = .int .i64 j ∧ Aside0 (j ≤ N) ∧ Aside0 (Sim .f32 s (NumsA.sumF ((xs.map Int.toNat).take j))) ∧ Aside0 (Below w8.heap.size w8 w')) (fun _ vc _ => N - (intOf vc).toNat)
  case atStart => exact ⟨0, 0, rfl, rfl, ⟨by omega⟩, ⟨.inl rfl⟩, ⟨(by repeat (first | (with_reducible first | exact HBa.out | apply below_alloc | apply pw_below_drewN | apply below_drew1) | exact HBa.out))⟩⟩
  case round =>
    obtain ⟨s, j, rfl, rfl, HJ, HS, HK⟩ := hrel
    by_cases hlt : j < N
    · obtain ⟨ad, ea, hxx⟩ := at_f32 CF.out j hlt
      subst ea
      replace hxx : wr.cell? (ad.add j) = some (.float .f32 ((xs.map Int.toNat).getD j 0)) := (HK.out.cell (World.block_lt_of_cell? w8 _ hxx)).trans hxx
      have HE := Aside0.mk (NumsA.sumF_step (l := xs.map Int.toNat) (j := j) (by rw [List.length_map, ← HN.out]; exact hlt))
      generalize (xs.map Int.toNat).getD j 0 = xj at *
      go_wp2
      go_roundw
      case rel => exact ⟨_, j + 1, rfl, by go_num, ⟨by omega⟩, ⟨by rw [HE.out]; exact fres_of _ HS.out (Sim.refl _ _)⟩, ⟨(by repeat (first | (with_reducible first | exact HK.out | apply below_alloc | apply pw_below_drewN | apply below_drew1) | exact HK.out))⟩⟩
      case measure => simp [intOf]; omega
    · obtain rfl : j = N := by have := HJ.out; omega
      have HS0 : Aside0 (Sim .f32 s (NumsA.sumF (xs.map Int.toNat))) := ⟨by have := HS.out; rw [List.take_of_length_le (by rw [List.length_map, ← HN.out]; exact Nat.le_refl _)] at this; exact this⟩
      clear HS HBa
      have HSum := Aside0.mk (fun w (h : FK.C w A j (xs.map Int.toNat)) => by
        have := NumsA.SumNumbers_yes A c (xs.map Int.toNat) w (by rw [List.length_map, ← HN.out]; exact h) (by rw [List.length_map]; exact Hxs.out)
        rw [List.length_map, ← HN.out] at this
        exact this)
      go_wp2_with fail
      refine (HSum.out _ (Kd.C_below CF.out (by repeat (first | (with_reducible first | exact HK.out | apply below_alloc | apply pw_below_drewN | apply below_drew1) | exact HK.out)))).mono ?_
      rintro e w9 ⟨got, rfl, hgot, hd⟩
      have HG := Aside0.mk hgot
      have HB7 := Aside0.mk (drawn_grown (by repeat (first | (with_reducible first | exact HK.out | apply below_alloc | apply pw_below_drewN | apply below_drew1) | exact HK.out)) hd)
      clear hd hgot
      go_wp2_with fail
      have HText := Aside0.mk (fun w (h : Below w8.heap.size w8 w) => by
        have := impl_NumbersText.calls 100000 A c xs t true w (Kd.C_below CL.out h) (by rw [← HN.out]; exact hcap) Et.out ⟨TR.th (TR.on TR8.out h)⟩
        rw [← HN.out] at this
        exact this)
      refine (HText.out _ (by repeat (first | (with_reducible first | exact HB7.out | apply below_alloc | apply pw_below_drewN | apply below_drew1) | exact HB7.out))).mono ?_
      rintro e w10 ⟨rfl, hb⟩
      have HB8 := Aside0.mk (below_step (by repeat (first | (with_reducible first | exact HB7.out | apply below_alloc | apply pw_below_drewN | apply below_drew1) | exact HB7.out)) hb)
      clear hb
      go_wp2_with fail
      refine (impl_ReadNumbers.calls 100000 t ys true _ Er.out ⟨TR.on TR8.out (by repeat (first | (with_reducible first | exact HB8.out | apply below_alloc | apply pw_below_drewN | apply below_drew1) | exact HB8.out))⟩).mono ?_
      rintro e w11 ⟨v11, rfl, hr, hb⟩
      have HB9 := Aside0.mk (below_step (by repeat (first | (with_reducible first | exact HB8.out | apply below_alloc | apply pw_below_drewN | apply below_drew1) | exact HB8.out)) hb)
      clear hb
      obtain ⟨B, d, rfl, hcap2, hC2⟩ := Kd.R_reads hr
      have CY := Aside0.mk hC2
      have CX := Aside0.mk (Kd.C_below CL.out HB9.out)
      clear hC2 hr
      have HBb := Aside0.mk (Below.refl w11.heap.size w11)
      rw [Hys.out, ← HN.out] at hcap2 ⊢
      go_wp2_with fail
      refine (HS1.out _).mono ?_
      rintro e w12 ⟨rfl, rfl⟩
      go_wp2_with fail
      refine (HSubz.out _).mono ?_
      rintro e w13 ⟨rfl, hd⟩
      have HC1 := Aside0.mk (drawn_grown (by repeat (first | (with_reducible first | exact HBb.out | apply below_alloc | apply pw_below_drewN | apply below_drew1) | exact HBb.out)) hd)
      clear hd
      go_wp2_with fail
      refine (HSubx.out _).mono ?_
      rintro e w14 ⟨rfl, hd⟩
      have HC2 := Aside0.mk (drawn_grown (by repeat (first | (with_reducible first | exact HC1.out | apply below_alloc | apply pw_below_drewN | apply below_drew1) | exact HC1.out)) hd)
      clear hd
      go_wp2_with fail
      refine (HS2.out _).mono ?_
      rintro e w15 ⟨rfl, rfl⟩
      go_wp2_with fail
      refine (NumsA.SameNumber_sim _ _ _ HG.out HS0.out (NumsA.sumF_lt _) _).mono ?_
      rintro e w16 ⟨rfl, rfl⟩
      go_wp2
      go_loopw [113] (fun vc w' => ∃ j2 : Nat, vc = .int .i64 j2 ∧ Aside0 (j2 ≤ j) ∧ Aside0 (Below w11.heap.size w11 w')) (fun vc _ => j - (intOf vc).toNat)
      case atStart => exact ⟨0, rfl, ⟨by omega⟩, ⟨(by repeat (first | (with_reducible first | exact HC2.out | apply below_alloc | apply pw_below_drewN | apply below_drew1) | exact HC2.out))⟩⟩
      case round =>
        obtain ⟨i, rfl, HI, HK2⟩ := hrel
        by_cases hlt2 : i < j
        · obtain ⟨p, q, ep, eq, hp, hq, hpq⟩ := HSame.out i (by rw [← HN.out]; exact hlt2)
          obtain ⟨ad, ea, hxx⟩ := at_fki CY.out i (by omega) (by rw [Hys.out, ← HN.out]; omega)
          obtain ⟨bd, eb, hyy⟩ := at_fki CX.out i (by omega) (by rw [← HN.out]; omega)
          subst ea eb
          rw [ep, Int.toNat_natCast] at hxx
          rw [eq, Int.toNat_natCast] at hyy
          replace hxx : wr.cell? (ad.add i) = some (.float .f32 p) := (HK2.out.cell (World.block_lt_of_cell? w11 _ hxx)).trans (by rw [hxx, FV, Int.toNat_natCast])
          replace hyy : wr.cell? (bd.add i) = some (.float .f32 q) := (HK2.out.cell (World.block_lt_of_cell? w11 _ hyy)).trans (by rw [hyy, FV, Int.toNat_natCast])
          have HPQ := Lib.hid (show ∀ w, Calls Tryz.prog 15 #[.float .f32 p, .float .f32 q] w fun e w' => e = .returned (.bool true) ∧ ∃ n, w' = w.drewN n from fun w => by have h_ := NumsA.SameNumber_any p q hp hq w; rw [hpq] at h_; exact h_.mono fun _ _ ⟨a_, b_⟩ => ⟨a_, 0, by rw [← b_, World.drewN_zero]⟩)
          clear hpq hp hq ep eq
          go_wp2_with fail
          go_quiet ((go_at_call 15; exact Calls.quiet_of (HPQ.out _)))
          go_wp2
          go_roundw
          case rel => exact ⟨i + 1, by go_num, ⟨by omega⟩, ⟨(by repeat (first | (with_reducible first | exact HK2.out | apply below_alloc | apply pw_below_drewN | apply below_drew1) | exact HK2.out))⟩⟩
          case measure => simp [intOf]; omega
        · obtain rfl : i = j := by have := HI.out; omega
          have ho1 : FloatKind.f32.format.order 1065353216 1065353216 = some .eq := by decide +kernel
          go_wp2_with fail
          refine (HAng.out _).mono ?_
          rintro e w17 ⟨r1, rfl, hr1, hd⟩
          have HC3 := Aside0.mk (drawn_grown (by repeat (first | (with_reducible first | exact HK2.out | apply below_alloc | apply pw_below_drewN | apply below_drew1) | exact HK2.out)) hd)
          have HR1 := Aside0.mk hr1
          clear hd hr1
          go_wp2_with fail
          refine (NumsA.AngleOf_any y x T HAng.out _).mono ?_
          rintro e w18 ⟨r2, rfl, hr2, hd⟩
          have HC4 := Aside0.mk (drawn_grown (by repeat (first | (with_reducible first | exact HC3.out | apply below_alloc | apply pw_below_drewN | apply below_drew1) | exact HC3.out)) hd)
          have HR2 := Aside0.mk hr2
          clear hd hr2
          go_wp2_with fail
          refine (NumsA.SameNumber_sim _ _ T HR1.out HR2.out HTT.out _).mono ?_
          rintro e w19 ⟨rfl, rfl⟩
          go_wp2_with fail
          refine (NumsA.NarrowNumber_any _ _).mono ?_
          rintro e w20 ⟨w2_, rfl, hd⟩
          have HC5 := Aside0.mk (drawn_grown (by repeat (first | (with_reducible first | exact HC4.out | apply below_alloc | apply pw_below_drewN | apply below_drew1) | exact HC4.out)) hd)
          clear hd
          go_wp2_with fail
          refine (NumsA.SameNumber_sim _ _ x (NumsA.narrow_back HX.out _ _) (Sim.refl ..) HX.out _).mono ?_
          rintro e w21 ⟨rfl, rfl⟩
          go_wp2_with fail
          refine (NumsA.quarter _).mono ?_
          rintro e w22 ⟨rfl, hd⟩
          have HC6 := Aside0.mk (drawn_grown (by repeat (first | (with_reducible first | exact HC5.out | apply below_alloc | apply pw_below_drewN | apply below_drew1) | exact HC5.out)) hd)
          clear hd
          go_wp2
          go_ret
          exact ⟨rfl, below_step HB6.out (below_step HB9.out (by repeat (first | (with_reducible first | exact HC6.out | apply below_alloc | apply pw_below_drewN | apply below_drew1) | exact HC6.out)))⟩
theorem walk (A0 : Option Addr) (c0 : Nat) (l0 : List Int) (A1 : Option Addr) (c1 : Nat) (l1 : List Int) (W : World) (h0 : Kd.C (Kd.int .u8) W A0 l0.length l0) (hc0 : l0.length ≤ c0) (h1 : Kd.C (Kd.int .u8) W A1 l1.length l1) (hc1 : l1.length ≤ c1)
    (b0 : ∀ n ∈ l0, 0 ≤ n ∧ n ≤ 255) (b1 : ∀ n ∈ l1, 0 ≤ n ∧ n ≤ 255) (HT : TR W) :
    Calls Tryz.prog 3 #[.slice A0 l0.length c0, .slice A1 l1.length c1] W fun e w' => e = .returned (.bool true) ∧ Below W.heap.size W w' := by
  have hb0 : SZ.By l0 := fun x hx => by have := b0 x hx; omega
  have hb1 : SZ.By l1 := fun x hx => by have := b1 x hx; omega
  have hl : SZ.laws_b10Long.f l0 l1 = some true ∨ SZ.laws_b10Long.f l0 l1 = some false := by
    unfold SZ.laws_b10Long.f
    split
    · exact .inl rfl
    · cases decide ((l1.length : Int) > 1048576)
      · exact .inr rfl
      · exact .inl rfl
  rcases hl with hl | hl
  · exact walk_long A0 c0 l0 A1 c1 l1 W h0 hc0 h1 hc1 hl
  · obtain ⟨x, ex, bx⟩ := SZ.B10Number_ok hb0
    obtain ⟨y, ey, b_y⟩ := SZ.B10Number_ok hb1
    obtain ⟨x, rfl⟩ := Int.eq_ofNat_of_zero_le bx.1
    obtain ⟨y, rfl⟩ := Int.eq_ofNat_of_zero_le b_y.1
    have hx : x < 4294967296 := by have := bx.2; omega
    have hy : y < 4294967296 := by have := b_y.2; omega
    obtain ⟨n, en, hn⟩ := SZ.b10At_ok hb0 0 12 (by omega) (by omega) (by omega)
    obtain ⟨xs, exs, hlen, hxs⟩ := SZ.B10Numbers_ok hb1 n 1000 (by omega) (by omega)
    have hin : ∀ v ∈ xs, InV v := fun v hv => by have := hxs v hv; unfold SZ.B32 at this; unfold InV; omega
    obtain ⟨t, et, er⟩ := round xs hin (by omega)
    obtain ⟨T, hT, hA⟩ := NumsA.angle_all y x hy hx
    refine walk_short A0 c0 l0 A1 c1 l1 W h0 hc0 h1 hc1 hl HT x hx ex y hy ey n en xs exs (by omega) t et _ er (List.length_map ..) (fun j hj => ?_) T hT hA
    have hv := hxs _ (List.getElem_mem hj)
    have hi := hin _ (List.getElem_mem hj)
    have hr := bitsN_range (x := xs[j].toNat) hi
    refine ⟨(bitsN xs[j].toNat).toNat, xs[j].toNat, ?_, ?_, by omega, hi, NumsA.same_bits _⟩
    · rw [rd_get _ j (by rw [List.length_map]; exact hj), List.getElem_map]; omega
    · rw [rd_get _ j hj]
      have := hv.1
      omega
end Go.Proofs.YtempeenjpaldaaaGreatDoor.NumsW
