/- The law's tests and marks of schemes: eqScheme, markScheme, heldScheme. -/
import Derived.Test.YtgmioegepmoopaaMarkF
import Derived.Test.YtgmioegepmoopaaEqF
namespace Go.Proofs.Ytgmioegepmoopaa
open Go.RowKit Go.Proofs.YtgmioegepmoopaaW.PrintWords Go.Proofs.YtgmioegepmoopaaW.PrintLast Fl

set_option maxHeartbeats 1000000 in
set_option maxRecDepth 100000 in
theorem eqScheme_any (A B : Option Addr) (c d x y : Nat) (l m : List Nat) (w : World) (hr0 : FK.C w A l.length l) (hr1 : FK.C w B m.length m) (hs : SimL l m) (hxy : Sim .f32 x y) :
    Calls Try.prog 42 #[.agg #[.slice A l.length c, .float .f32 x], .agg #[.slice B m.length d, .float .f32 y]] w fun e w' => e = .returned (.bool true) ∧ Below w.heap.size w w' := by
  have HR0 := Aside0.mk hr0
  have HR1 := Aside0.mk hr1
  have HS := Aside0.mk hs
  have HX := Aside0.mk hxy
  clear hr0 hr1 hs hxy
  go_enter Try.func42, Try.ntmps42
  go_wp2_with fail
  refine (eqF_any A B c d l m _ (Kd.C_alloc (Kd.C_alloc HR0.out _) _) (Kd.C_alloc (Kd.C_alloc HR1.out _) _) HS.out).mono ?_
  rintro e w' ⟨rfl, n1, rfl⟩
  go_wp2_with fail
  refine (sameFloat_any _ _ (wide_both _ _ HX.out) _).mono ?_
  rintro e w' ⟨rfl, n2, rfl⟩
  go_wp2
  go_ret
  exact ⟨rfl, below_drewN (below_alloc (below_alloc (Below.refl _ _) _) _) _⟩

set_option maxHeartbeats 1000000 in
set_option maxRecDepth 100000 in
theorem markScheme_any (v : Value) (x : Nat) (l : List Nat) (m : Int) (w : World) (base : Nat) (ok : Nat → Prop) (hr : FK.R 22 w base ok v l) (hp : 0 < l.length) (h0 : 0 ≤ m) (hm : m + l.length ≤ 1000000000000) :
    Calls Try.prog 43 #[.agg #[v, .float .f32 x], .int .i64 m] w fun e w' => ∃ w1 : World, e = .returned (.int .i64 (m + l.length)) ∧ Aside0 (Below w.heap.size w w1) ∧ Aside0 (FK.R 22 w' base ok v (marks m l.length)) ∧ Aside0 (w1.grownBy w' v.ownBlock) := by
  have HR := Aside0.mk hr
  obtain ⟨g, cap, rfl, -, -, -⟩ := Kd.R_form hr hp
  clear hr
  go_enter Try.func43, Try.ntmps43
  go_wp2_with fail
  refine (markF_any _ l m _ base ok (Kd.R_alloc HR.out _) h0 hm).mono ?_
  rintro e w' ⟨rfl, hr1, hg⟩
  have HR1 := Aside0.mk hr1
  have HG := Aside0.mk hg
  clear hr1 hg
  go_wp2
  go_ret
  exact ⟨_, rfl, ⟨below_alloc (Below.refl _ _) _⟩, HR1, HG⟩

set_option maxHeartbeats 1000000 in
set_option maxRecDepth 100000 in
theorem heldScheme_any (A : Option Addr) (c n x : Nat) (m : Int) (w : World) (hr0 : FK.C w A n (marks m n)) (h0 : 0 ≤ m) (hm : m + n ≤ 1000000000000) :
    Calls Try.prog 44 #[.agg #[.slice A n c, .float .f32 x], .int .i64 m] w fun e w' => e = .returned (.int .i64 (m + n)) ∧ Below w.heap.size w w' := by
  have HR0 := Aside0.mk hr0
  clear hr0
  have hlt : ¬ m + (n : Int) < 0 := by omega
  go_enter Try.func44, Try.ntmps44
  go_wp2_with fail
  refine (heldF_any A c n m _ (Kd.C_alloc HR0.out _) h0 hm).mono ?_
  rintro e w' ⟨rfl, rfl⟩
  go_wp2
  go_ret
  exact ⟨rfl, below_alloc (Below.refl _ _) _⟩
theorem cell_step {w w1 : World} {b o : Nat} {v : Value} (h : w.cell? ⟨b, o, none⟩ = some v) (hb : Below w.heap.size w w1) : w1.cell? ⟨b, o, none⟩ = some v := (hb.cell (World.block_lt_of_cell? w _ h)).trans h
theorem cell_grown {w w1 : World} {g b o : Nat} {v : Value} (h : w.cell? ⟨b, o, none⟩ = some v) (hg : w.grownBy w1 (some g)) (hne : b ≠ g) : w1.cell? ⟨b, o, none⟩ = some v := by
  have hlt := World.block_lt_of_cell? w _ h
  exact (World.cell?_of_block (w := w) (hg.block b hlt (fun e => hne (Option.some.inj e)))).trans h
theorem cell_alloc {w : World} {b o : Nat} {v : Value} (h : w.cell? ⟨b, o, none⟩ = some v) (O : Obj) : (w.alloc O).cell? ⟨b, o, none⟩ = some v := (World.cell?_alloc_lt w O _ (World.block_lt_of_cell? w _ h)).trans h
theorem cell_size {w : World} {b o : Nat} {v : Value} (h : w.cell? ⟨b, o, none⟩ = some v) : b < w.heap.size := World.block_lt_of_cell? w _ h
end Go.Proofs.Ytgmioegepmoopaa
