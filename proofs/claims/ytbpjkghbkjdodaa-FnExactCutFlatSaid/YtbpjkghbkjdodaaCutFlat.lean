/- This proves that the law FnExactCutFlat returns true for all lists of float32 numbers and all levels: the program's CutFlat and the reference's answer the same, leave the list alone, and share no memory. No condition. -/
import Derived.Test.YtbpjkghbkjdodaaRows
import Derived.Test.YtbpjkghbkjdodaaPCut
import Derived.Test.YtbpjkghbkjdodaaToF
import Derived.ProofKit
import Derived.OpenShut
import Derived.ShutString
import Derived.ChangeOld
import Derived.Below
namespace Go.Proofs.Ytbpjkghbkjdodaa.fnExactCutFlat
open Go.ChangeShapes Go.WideShapes Go.ChangeAt
open Go.RowKit Go.Proofs.YtbpjkghbkjdodaaW.PrintWords Go.Proofs.YtbpjkghbkjdodaaW.PrintLast Fl Go.Proofs.Ytbpjkghbkjdodaa.SBnd

abbrev KI := Kd.slice 34 FKI
def To (z : List Int) : Prop := ∀ (A : Option Addr) (c : Nat) (w : World), FKI.C w A z.length z → Calls Try.prog 15 #[.slice A z.length c] w fun e w' => ∃ v : Value, e = .returned v ∧ FKI.R 34 w' w.heap.size (fun _ => True) v z ∧ Below w.heap.size w w'
theorem ints_nat (l : List Nat) : (ints l).map Int.toNat = l := by
  rw [List.map_map]
  exact (List.map_congr_left (fun x _ => rfl)).trans (List.map_id _)
theorem to_ints (l : List Nat) (hn : l.length ≤ 1048576) : To (ints l) := by
  intro A c w hr
  have h1 := C_nat hr
  rw [ints_nat, List.length_map] at h1
  rw [List.length_map]
  refine (toF_any A c l w h1 hn).mono ?_
  rintro e w' ⟨v, rfl, r, b⟩
  exact ⟨v, rfl, R_int r, b⟩
theorem C_ints {w : World} {A : Option Addr} {n : Nat} {xs : List Nat} (h : FK.C w A n xs) : FKI.C w A n (ints xs) := by
  obtain ⟨h1, h2, h3⟩ := h
  refine ⟨by rw [List.length_map]; exact h1, h2, fun hn => ?_⟩
  obtain ⟨ad, e, hc⟩ := h3 hn
  refine ⟨ad, e, fun j p hj => ?_⟩
  obtain ⟨q, hq, rfl⟩ := by simpa using hj
  exact hc j q hq
theorem own_blk {z : List Int} {w : World} {base : Nat} {ok : Nat → Prop} {v : Value} (h : FKI.R 34 w base ok v z) : ∀ k, v.ownBlock = some k → base ≤ k ∧ k < w.heap.size := fun k hk => ⟨Kd.R_base h k hk, Kd.R_lt h k hk⟩
theorem S_elder {T : List (List Int)} {w : World} {base : Nat} {v : Value} (h : Kd.S KI 27 w base (fun _ => True) v T) : Kd.S KI 27 w base (fun k => base ≤ k ∧ k < w.heap.size) v T :=
  Kd.S_mono (Kd.S_bound h) (fun _ hk => ⟨hk.2.1, hk.2.2.1⟩)
theorem ne_of {v : Value} {k B : Nat} (h : ∀ k, v.ownBlock = some k → B ≤ k) (hk : k < B) : some k ≠ v.ownBlock := fun e => by have := h k e.symm; omega
theorem ne_of' {v : Value} {k B : Nat} (h : ∀ k, v.ownBlock = some k → k < B) (hk : B ≤ k) : some k ≠ v.ownBlock := fun e => by have := h k e.symm; omega

set_option maxHeartbeats 2000000 in
set_option maxRecDepth 100000 in
theorem walkT (z : List Int) (T : List (List Int)) (lev : Int) (b : Bool) (w : World) (A : Option Addr) (c : Nat) (HA : Aside0 (FKI.C w A z.length z)) (hn : z.length ≤ 1048576) (HTo : Aside0 (To z)) (HS : Aside0 (spec_CutFlat.f 2000 z lev = some (T, b)))
    (HI : Aside0 (impl_CutFlat.f 2000 z lev = some (T, b))) (HE : Aside0 (laws_eqFloat32SS.f 2000 T T = some true)) (hT : tot T ≤ 1048576) :
    Calls Try.prog 4 #[.slice A z.length c, .int .i64 lev] w fun e w' => e = .returned (.bool true) ∧ Below w.heap.size w w' := by
  have h1 : ¬ 1048576 < (z.length : Int) := by omega
  have BB := Aside0.mk (Below.refl w.heap.size w)
  have hb : (b != b) = false := by cases b <;> rfl
  have hk1 : decide (1 + (z.length : Int) < 0) = false := decide_eq_false (by omega)
  have hk2 : decide (1 + ((tot T : Nat) : Int) < 0) = false := decide_eq_false (by omega)
  have HA0 := HA
  go_enter Try.func4, Try.ntmps4
  go_wp2_with fail
  refine (HTo.out A c _ HA.out).mono ?_
  rintro e w1 ⟨v1, rfl, ra, bq⟩
  have b1 : Aside0 (Below w.heap.size w w1) := Aside0.mk bq
  replace HA := Aside0.mk (Kd.C_below HA.out b1.out)
  replace BB := Aside0.mk (below_step BB.out b1.out)
  obtain ⟨Aa, ca, rfl, la, ka⟩ := Kd.R_reads ra
  have Ka := Aside0.mk ka
  have La := Aside0.mk la
  clear ka la
  clear ra bq
  go_wp2_with fail
  refine (spec_CutFlat.calls 2000 Aa ca z lev T b _ Ka.out La.out HS.out).mono ?_
  rintro e w2 ⟨vw, rfl, sw, bq⟩
  have b2 : Aside0 (Below w1.heap.size w1 w2) := Aside0.mk bq
  replace HA := Aside0.mk (Kd.C_below HA.out b2.out)
  replace BB := Aside0.mk (below_step BB.out b2.out)
  obtain ⟨Aw, cw, rfl, -, -⟩ := Kd.S_reads sw
  have SW := Aside0.mk (S_elder sw)
  clear sw bq
  go_wp2_with fail
  refine (HTo.out A c _ HA.out).mono ?_
  rintro e w3 ⟨v3, rfl, rx, bq⟩
  have b3 : Aside0 (Below w2.heap.size w2 w3) := Aside0.mk bq
  replace HA := Aside0.mk (Kd.C_below HA.out b3.out)
  replace SW := Aside0.mk (Kd.S_below SW.out b3.out)
  replace BB := Aside0.mk (below_step BB.out b3.out)
  have HX := Aside0.mk (own_blk rx)
  obtain ⟨Ax, cx, rfl, lx, kx⟩ := Kd.R_reads rx
  have Kx := Aside0.mk kx
  have Lx := Aside0.mk lx
  clear kx lx
  have RX := Aside0.mk rx
  clear rx bq
  go_wp2_with fail
  refine (impl_CutFlat.calls 2000 Ax cx z lev T b _ Kx.out Lx.out HI.out).mono ?_
  rintro e w4 ⟨vg, rfl, sg, bq⟩
  have b4 : Aside0 (Below w3.heap.size w3 w4) := Aside0.mk bq
  replace HA := Aside0.mk (Kd.C_below HA.out b4.out)
  replace SW := Aside0.mk (Kd.S_below SW.out b4.out)
  replace Kx := Aside0.mk (Kd.C_below Kx.out b4.out)
  replace RX := Aside0.mk (Kd.R_below RX.out b4.out)
  replace BB := Aside0.mk (below_step BB.out b4.out)
  obtain ⟨Ag, cg, rfl, -, -⟩ := Kd.S_reads sg
  have SG := Aside0.mk (S_elder sg)
  clear sg bq
  go_wp2_with fail
  refine (laws_eqFloat32SS.calls 2000 Ag cg T Aw cw T true _ (Kd.S_reads' SG.out).2.2 (Kd.S_reads' SG.out).2.1 (Kd.S_reads' SW.out).2.2 (Kd.S_reads' SW.out).2.1 HE.out).mono ?_
  rintro e w5 ⟨rfl, dq⟩
  have b5 : Aside0 (Below w4.heap.size w4 w5) := Aside0.mk dq.below
  replace HA := Aside0.mk (Kd.C_below HA.out b5.out)
  replace SW := Aside0.mk (Kd.S_below SW.out b5.out)
  replace Kx := Aside0.mk (Kd.C_below Kx.out b5.out)
  replace RX := Aside0.mk (Kd.R_below RX.out b5.out)
  replace SG := Aside0.mk (Kd.S_below SG.out b5.out)
  replace BB := Aside0.mk (below_step BB.out b5.out)
  clear dq
  go_wp2_with fail
  refine (HTo.out A c _ HA.out).mono ?_
  rintro e w6 ⟨v6, rfl, ry, bq⟩
  have b6 : Aside0 (Below w5.heap.size w5 w6) := Aside0.mk bq
  replace HA := Aside0.mk (Kd.C_below HA.out b6.out)
  replace SW := Aside0.mk (Kd.S_below SW.out b6.out)
  replace Kx := Aside0.mk (Kd.C_below Kx.out b6.out)
  replace RX := Aside0.mk (Kd.R_below RX.out b6.out)
  replace SG := Aside0.mk (Kd.S_below SG.out b6.out)
  replace BB := Aside0.mk (below_step BB.out b6.out)
  obtain ⟨Ay, cy, rfl, ly, ky⟩ := Kd.R_reads ry
  have Ky := Aside0.mk ky
  have Ly := Aside0.mk ly
  clear ky ly
  clear ry bq
  go_wp2_with fail
  refine (laws_eqFloat32S.calls Ax cx z Ay cy z true _ Kx.out Lx.out Ky.out Ly.out (if_pos rfl)).mono ?_
  rintro e w7 ⟨rfl, dq⟩
  have b7 : Aside0 (Below w6.heap.size w6 w7) := Aside0.mk dq.below
  replace HA := Aside0.mk (Kd.C_below HA.out b7.out)
  replace SW := Aside0.mk (Kd.S_below SW.out b7.out)
  replace Kx := Aside0.mk (Kd.C_below Kx.out b7.out)
  replace RX := Aside0.mk (Kd.R_below RX.out b7.out)
  replace SG := Aside0.mk (Kd.S_below SG.out b7.out)
  replace BB := Aside0.mk (below_step BB.out b7.out)
  clear dq
  go_wp2_with fail
  refine (markI_any _ z 1 _ _ _ RX.out (by omega) (by omega)).mono ?_
  rintro e w8 ⟨rfl, -, hg⟩
  replace SW := Aside0.mk (Kd.S_grown SW.out hg (fun k hk => ne_of (fun k hk => (HX.out k hk).1) hk.2))
  replace SG := Aside0.mk (Kd.S_grown SG.out hg (fun k hk => ne_of' (fun k hk => (HX.out k hk).2) hk.1))
  replace BB := Aside0.mk (pw_below_grown BB.out _ BB.out.size hg (fun k hk => Nat.le_trans (Nat.le_trans b1.out.size b2.out.size) (HX.out k hk).1))
  have HSZ : Aside0 (w7.heap.size ≤ w8.heap.size) := Aside0.mk hg.size
  clear hg RX Kx
  replace HA := Aside0.mk (Kd.C_below HA0.out BB.out)
  go_wp2_with fail
  refine (laws_eqFloat32SS.calls 2000 Ag cg T Aw cw T true _ (Kd.S_reads' SG.out).2.2 (Kd.S_reads' SG.out).2.1 (Kd.S_reads' SW.out).2.2 (Kd.S_reads' SW.out).2.1 HE.out).mono ?_
  rintro e w9 ⟨rfl, dq⟩
  have b9 : Aside0 (Below w8.heap.size w8 w9) := Aside0.mk dq.below
  replace HA := Aside0.mk (Kd.C_below HA.out b9.out)
  replace SW := Aside0.mk (Kd.S_below SW.out b9.out)
  replace SG := Aside0.mk (Kd.S_below SG.out b9.out)
  replace BB := Aside0.mk (below_step BB.out b9.out)
  clear dq
  go_wp2_with fail
  have hsz := Nat.le_trans b4.out.size (Nat.le_trans b5.out.size (Nat.le_trans b6.out.size b7.out.size))
  refine (markSS_any _ T 1 _ _ _ SG.out (Nat.le_trans hsz (Nat.le_trans HSZ.out b9.out.size)) (by omega) (by omega)).mono ?_
  rintro e w10 ⟨rfl, sg, bq⟩
  replace SG := Aside0.mk sg
  replace SW := Aside0.mk (Kd.S_step SW.out (fun k hk _ => bq.block k (Nat.lt_of_lt_of_le hk.2 b3.out.size)))
  replace BB := Aside0.mk (BB.out.trans (bq.mono (Nat.le_trans b1.out.size (Nat.le_trans b2.out.size b3.out.size))))
  clear sg bq
  replace HA := Aside0.mk (Kd.C_below HA0.out BB.out)
  go_wp2_with fail
  refine (heldSS_any Ag cg T 1 _ (by have h := (Kd.S_reads' SG.out).2.2; rwa [mrows_length] at h) (by omega) (by omega)).mono ?_
  rintro e w11 ⟨rfl, dq⟩
  have b11 : Aside0 (Below w10.heap.size w10 w11) := Aside0.mk (dq ▸ Below.refl _ _)
  replace HA := Aside0.mk (Kd.C_below HA.out b11.out)
  replace SW := Aside0.mk (Kd.S_below SW.out b11.out)
  replace SG := Aside0.mk (Kd.S_below SG.out b11.out)
  replace BB := Aside0.mk (below_step BB.out b11.out)
  clear dq
  go_wp2_with fail
  refine (HTo.out A c _ HA.out).mono ?_
  rintro e w12 ⟨v6, rfl, rz, bq⟩
  have b12 : Aside0 (Below w11.heap.size w11 w12) := Aside0.mk bq
  replace HA := Aside0.mk (Kd.C_below HA.out b12.out)
  replace SW := Aside0.mk (Kd.S_below SW.out b12.out)
  replace SG := Aside0.mk (Kd.S_below SG.out b12.out)
  replace BB := Aside0.mk (below_step BB.out b12.out)
  obtain ⟨Az, cz, rfl, lz, kz⟩ := Kd.R_reads rz
  have Kz := Aside0.mk kz
  have Lz := Aside0.mk lz
  clear kz lz
  clear rz bq
  go_wp2_with fail
  refine (impl_CutFlat.calls 2000 Az cz z lev T b _ Kz.out Lz.out HI.out).mono ?_
  rintro e w13 ⟨vh, rfl, sh, bq⟩
  have b13 : Aside0 (Below w12.heap.size w12 w13) := Aside0.mk bq
  replace HA := Aside0.mk (Kd.C_below HA.out b13.out)
  replace SW := Aside0.mk (Kd.S_below SW.out b13.out)
  replace SG := Aside0.mk (Kd.S_below SG.out b13.out)
  replace BB := Aside0.mk (below_step BB.out b13.out)
  obtain ⟨Ah, ch, rfl, -, -⟩ := Kd.S_reads sh
  have SH := Aside0.mk sh
  clear sh bq
  go_wp2_with fail
  refine (laws_eqFloat32SS.calls 2000 Ah ch T Aw cw T true _ (Kd.S_reads' SH.out).2.2 (Kd.S_reads' SH.out).2.1 (Kd.S_reads' SW.out).2.2 (Kd.S_reads' SW.out).2.1 HE.out).mono ?_
  rintro e w14 ⟨rfl, dq⟩
  have b14 : Aside0 (Below w13.heap.size w13 w14) := Aside0.mk dq.below
  replace HA := Aside0.mk (Kd.C_below HA.out b14.out)
  replace SW := Aside0.mk (Kd.S_below SW.out b14.out)
  replace SG := Aside0.mk (Kd.S_below SG.out b14.out)
  replace SH := Aside0.mk (Kd.S_below SH.out b14.out)
  replace BB := Aside0.mk (below_step BB.out b14.out)
  clear dq
  go_wp2_with fail
  refine (heldSS_any Ag cg T 1 _ (by have h := (Kd.S_reads' SG.out).2.2; rwa [mrows_length] at h) (by omega) (by omega)).mono ?_
  rintro e w15 ⟨rfl, dq⟩
  have b15 : Aside0 (Below w14.heap.size w14 w15) := Aside0.mk (dq ▸ Below.refl _ _)
  replace HA := Aside0.mk (Kd.C_below HA.out b15.out)
  replace SW := Aside0.mk (Kd.S_below SW.out b15.out)
  replace SG := Aside0.mk (Kd.S_below SG.out b15.out)
  replace SH := Aside0.mk (Kd.S_below SH.out b15.out)
  replace BB := Aside0.mk (below_step BB.out b15.out)
  clear dq
  go_wp2
  go_ret
  exact ⟨rfl, BB.out⟩

set_option maxHeartbeats 1000000 in
set_option maxRecDepth 100000 in
theorem walk_long (A : Option Addr) (c n : Nat) (lev : Int) (w : World) (hn : 1048576 < n) :
    Calls Try.prog 4 #[.slice A n c, .int .i64 lev] w fun e w' => e = .returned (.bool true) ∧ Below w.heap.size w w' := by
  have h1 : 1048576 < (n : Int) := by omega
  clear hn
  go_enter Try.func4, Try.ntmps4
  go_wp2
  go_ret
  exact ⟨rfl, Below.refl _ _⟩
theorem walk (w : World) (A : Option Addr) (len c : Nat) (l : List Nat) (hr0 : FK.C w A len l) (_ : All32 l) (lev : Int) {p : Prop} (_ : p) :
    Calls Try.prog 4 #[.slice A len c, .int .i64 lev] w fun e w' => e = .returned (.bool true) ∧ Below w.heap.size w w' := by
  obtain rfl := Kd.C_len hr0
  by_cases h : 1048576 < l.length
  · exact walk_long A c l.length lev w h
  · have hl : (ints l).length = l.length := List.length_map ..
    have := walkT (ints l) (cutR (ints l) lev) lev (cutB (ints l) lev) w A c ⟨by rw [hl]; exact C_ints hr0⟩ (by rw [hl]; omega) ⟨to_ints l (by omega)⟩ ⟨spec_gives _ _⟩ ⟨impl_gives _ _ (by rw [hl]; omega)⟩
      ⟨eq_gives _ (by have := cutR_length (ints l) lev; omega)⟩ (by have := cutR_tot (ints l) lev; rw [hl] at this; omega)
    rw [hl] at this
    exact this

theorem own : ownKnob Try.prog.godebug = none := by kernel_rfl

theorem laidOut : laidOutB Try.prog = true := by kernel_rfl

set_option maxRecDepth 100000 in
theorem lifted (os : Os) (started : os.Started) (H : Type) (enc : TypeId × Value → H) :
    ReturnsInHanded {} Try.checked os 4 .any (Rows.fnExactCutFlatSpec.pre6 enc Try.prog Try.f4 Rows.fnExactCutFlatRow.domain false) (Rows.fnExactCutFlatSpec.post enc Try.prog Try.f4 false true false false) := by
  refine returnsInHanded_of_change (C := Try.checked) own started (by kernel_rfl) Try.func4
    (ChangeSpec.witness6 (enc := enc) (C := Try.checked) false ⟨#[], #[.slice none 0 0, .int .i64 0], []⟩ 8 (by kernel_rfl) (by kernel_rfl) (by kernel_rfl) (by kernel_rfl)) ?_
  intro W base args ds gs before hval0 hW _ _
  have hval : ∀ (j : Nat) t v, Try.f4.params[j]? = some t → args[j]? = some v → Value.okWide Try.prog W .any base t v := hval0
  have hW' := hW
  obtain ⟨p, q, hA0, hV, rfl, _, _⟩ := hW
  have hA : DataW.TrodAll enc Try.prog W 0 (fun _ => true) true Try.f4.params.toList args.toList ds p := hA0
  rw [Try.params4] at hA hval
  obtain ⟨v0, vs0, d0, ds0, p0, q0, hargs, rfl, rfl, h0, r0⟩ := trodAll_cons hA
  obtain ⟨v1, vs1, d1, ds1, p1, q1, rfl, rfl, rfl, h1, r1⟩ := trodAll_cons r0
  obtain ⟨rfl, rfl, rfl⟩ := trodAll_nil r1
  obtain rfl : args = #[v0, v1] := by cases args; simp_all
  obtain ⟨rfl, rfl⟩ := trodVars_none hV
  obtain ⟨a0, len0, cap0, rfl⟩ := okWide_slice Try.underlying27 (hval 0 27 v0 rfl rfl)
  have k0 := h0
  have lt0 : ∀ x ∈ p0, x.block < W.heap.size := by obtain ⟨m, hm⟩ := k0; exact DataW.trod_lt m _ _ _ hm
  obtain ⟨z0, c0, w0⟩ := open_f32s Try.underlying27 Try.underlying34 (by kernel_rfl) h0
  obtain ⟨a1, rfl, rfl, rfl, w1⟩ := open_int Try.underlying2 (hval 1 2 v1 rfl rfl) h1
  clear hA0 hval0
  simp only [List.append_nil] at hW'
  refine (walk W a0 len0 cap0 z0 c0 w0 a1 w1).mono fun e W' ⟨he, bel⟩ => ?_
  subst he
  exact ⟨_, rfl, _, _, _, [], _, [], hW', trodAll_mk1 (shut_bool Try.underlying4 _), (trodAll_cons_mk (Below.trod laidOut (by kernel_rfl) (of_decide_eq_true (by kernel_rfl)) k0 bel lt0) (trodAll_cons_mk (shut_int Try.underlying2 w1) trodAll_mk0)), rfl, bel.frame _, fun h => by cases h⟩

theorem over : Rows.fnExactCutFlatRow.holds Try.pinned (OpenSpec.ofChange Rows.fnExactCutFlatSpec) :=
  OpenClaim.holds_of_wide 4 Try.f4 rfl rfl rfl rfl rfl rfl rfl ⟨rfl, rfl, rfl, rfl, rfl⟩ rfl rfl rfl rfl rfl (by kernel_rfl) Try.func4 (by kernel_rfl)
    (of_decide_eq_true (by kernel_rfl)) (by unfold Func.isWrapper; first | (rw [if_pos (by decide +kernel)]; kernel_rfl) | (rw [if_neg (by decide +kernel)]; exact ⟨rfl, rfl⟩))
    (fun os started H enc _ => lifted os started H enc)

theorem proved : Rows.FnExactCutFlatSaid :=
  over
#print axioms proved
end Go.Proofs.Ytbpjkghbkjdodaa.fnExactCutFlat
