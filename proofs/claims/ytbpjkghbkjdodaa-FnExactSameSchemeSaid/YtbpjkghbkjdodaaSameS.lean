/- Schemes that are the same: the program's SameScheme and the reference's, for all arguments. -/
import Derived.Test.YtbpjkghbkjdodaaSameL
namespace Go.Proofs.Ytbpjkghbkjdodaa
open Go.RowKit Go.Proofs.YtbpjkghbkjdodaaW.PrintWords Go.Proofs.YtbpjkghbkjdodaaW.PrintLast Fl

set_option maxHeartbeats 1000000 in
set_option maxRecDepth 100000 in
theorem SameScheme_any (A B : Option Addr) (c d x y : Nat) (l m : List Nat) (w : World) (hr0 : FK.C w A l.length l) (hr1 : FK.C w B m.length m) (hl : All32 l) (hm : All32 m) (hx : x < 4294967296) (hy : y < 4294967296) :
    Calls Try.prog 27 #[.agg #[.slice A l.length c, .float .f32 x], .agg #[.slice B m.length d, .float .f32 y]] w fun e w' => e = .returned (.bool (sameLB l m && sameB x y)) ∧ Below w.heap.size w w' := by
  have HR0 := Aside0.mk hr0
  have HR1 := Aside0.mk hr1
  have HL := Aside0.mk hl
  have HM := Aside0.mk hm
  have HX := Aside0.mk hx
  have HY := Aside0.mk hy
  obtain ⟨b, hb⟩ : ∃ b, sameLB l m = b := ⟨_, rfl⟩
  have HB := Aside0.mk hb
  clear hr0 hr1 hl hm hx hy hb
  have hC : Aside0 (∀ W, FK.C W A l.length l → FK.C W B m.length m → Calls Try.prog 58 #[.slice A l.length c, .slice B m.length d] W fun e w' => e = .returned (.bool b) ∧ ∃ n, w' = W.drewN n) := ⟨fun W h1 h2 => by rw [← HB.out]; exact sameNumbers_any A B c d l m W h1 h2 HL.out HM.out⟩
  rw [HB.out]
  cases b
  · go_enter Try.func27, Try.ntmps27
    go_wp2_with fail
    refine (hC.out _ (Kd.C_alloc (Kd.C_alloc HR0.out _) _) (Kd.C_alloc (Kd.C_alloc HR1.out _) _)).mono ?_
    rintro e w' ⟨rfl, n1, rfl⟩
    go_wp2
    go_ret
    exact ⟨rfl, below_drewN (below_alloc (below_alloc (Below.refl _ _) _) _) _⟩
  · go_enter Try.func27, Try.ntmps27
    go_wp2_with fail
    refine (hC.out _ (Kd.C_alloc (Kd.C_alloc HR0.out _) _) (Kd.C_alloc (Kd.C_alloc HR1.out _) _)).mono ?_
    rintro e w' ⟨rfl, n1, rfl⟩
    go_wp2_with fail
    refine (SameNumber_any x y HX.out HY.out _).mono ?_
    rintro e w' ⟨rfl, n2, rfl⟩
    go_wp2
    go_ret
    exact ⟨ret_bool (by simp), by repeat (first | exact Below.refl _ _ | apply below_drewN | apply below_alloc)⟩

set_option maxHeartbeats 1000000 in
set_option maxRecDepth 100000 in
theorem l02Same_any (A B : Option Addr) (p q c d x y : Nat) (l m : List Nat) (w : World) (hr0 : FK.C w A l.length l) (hr1 : FK.C w B m.length m) (hl : All32 l) (hm : All32 m) (hx : x < 4294967296) (hy : y < 4294967296)
    (h0 : w.cell? ⟨p, 0, none⟩ = some (.slice A l.length c)) (h1 : w.cell? ⟨p, 1, none⟩ = some (.float .f32 x)) (h2 : w.cell? ⟨q, 0, none⟩ = some (.slice B m.length d)) (h3 : w.cell? ⟨q, 1, none⟩ = some (.float .f32 y)) :
    Calls Try.prog 57 #[.pointer (some ⟨p, 0, none⟩), .pointer (some ⟨q, 0, none⟩)] w fun e w' => e = .returned (.bool (sameLB l m && sameB x y)) ∧ Below w.heap.size w w' := by
  have HR0 := Aside0.mk hr0
  have HR1 := Aside0.mk hr1
  have HL := Aside0.mk hl
  have HM := Aside0.mk hm
  have HX := Aside0.mk hx
  have HY := Aside0.mk hy
  obtain ⟨b, hb⟩ : ∃ b, sameLB l m = b := ⟨_, rfl⟩
  have HB := Aside0.mk hb
  clear hr0 hr1 hl hm hx hy hb
  have hC : Aside0 (∀ W, (∃ n, W = w.drewN n) → Calls Try.prog 81 #[.slice A l.length c, .slice B m.length d] W fun e w' => e = .returned (.bool b) ∧ ∃ n, w' = W.drewN n) := ⟨fun W hW => by
    obtain ⟨n, rfl⟩ := hW
    rw [← HB.out]; exact l01SameAll_any A B c d l m _ (Kd.C_drewN HR0.out n) (Kd.C_drewN HR1.out n) HL.out HM.out⟩
  rw [HB.out]
  cases b
  · go_enter Try.func57, Try.ntmps57
    go_wp2_with fail
    go_quiet ((go_at_call 81; exact Calls.quiet_of (hC.out _ (by first | exact ⟨0, rfl⟩ | exact ⟨1, rfl⟩ | exact ⟨_, rfl⟩))))
    go_wp2
    go_ret
    exact ⟨rfl, by repeat (first | exact Below.refl _ _ | apply below_drewN | apply below_alloc)⟩
  · go_enter Try.func57, Try.ntmps57
    go_wp2_with fail
    go_quiet ((first | (go_at_call 81; exact Calls.quiet_of (hC.out _ (by first | exact ⟨0, rfl⟩ | exact ⟨1, rfl⟩ | exact ⟨_, rfl⟩))) | (go_at_call 82; exact Calls.quiet_of (l01Same_draws x y HX.out HY.out _))))
    go_wp2
    go_ret
    exact ⟨ret_bool (by simp), by repeat (first | exact Below.refl _ _ | apply below_drewN | apply below_alloc)⟩

set_option maxHeartbeats 1000000 in
set_option maxRecDepth 100000 in
theorem specSame_any (A B : Option Addr) (c d x y : Nat) (l m : List Nat) (w : World) (hr0 : FK.C w A l.length l) (hr1 : FK.C w B m.length m) (hl : All32 l) (hm : All32 m) (hx : x < 4294967296) (hy : y < 4294967296) :
    Calls Try.prog 26 #[.agg #[.slice A l.length c, .float .f32 x], .agg #[.slice B m.length d, .float .f32 y]] w fun e w' => e = .returned (.bool (sameLB l m && sameB x y)) ∧ Below w.heap.size w w' := by
  have HR0 := Aside0.mk hr0
  have HR1 := Aside0.mk hr1
  have HL := Aside0.mk hl
  have HM := Aside0.mk hm
  have HX := Aside0.mk hx
  have HY := Aside0.mk hy
  clear hr0 hr1 hl hm hx hy
  go_enter Try.func26, Try.ntmps26
  go_wp2_with fail
  refine (l02Same_any A B w.heap.size (w.heap.size + 1) c d x y l m _ (Kd.C_alloc (Kd.C_alloc HR0.out _) _) (Kd.C_alloc (Kd.C_alloc HR1.out _) _) HL.out HM.out HX.out HY.out (by simp) (by simp) (by simp) (by simp)).mono ?_
  rintro e w1 ⟨rfl, bb⟩
  have B1 := Aside0.mk bb
  clear bb
  go_wp2
  go_ret
  exact ⟨rfl, Below.trans (below_alloc (below_alloc (Below.refl _ w) _) _) (B1.out.mono (by simp; omega))⟩
end Go.Proofs.Ytbpjkghbkjdodaa
