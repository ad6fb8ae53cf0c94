/- The law's tests and marks of schemes: eqScheme, markScheme, heldScheme. -/
import Derived.Test.YtbpjkghbkjdodaaMarkF
import Derived.Test.YtbpjkghbkjdodaaEqF
namespace Go.Proofs.Ytbpjkghbkjdodaa
open Go.RowKit Go.Proofs.YtbpjkghbkjdodaaW.PrintWords Go.Proofs.YtbpjkghbkjdodaaW.PrintLast Fl

set_option maxHeartbeats 1000000 in
set_option maxRecDepth 100000 in
theorem eqScheme_any (A B : Option Addr) (c d x y : Nat) (l m : List Nat) (w : World) (hr0 : FK.C w A l.length l) (hr1 : FK.C w B m.length m) (hs : SimL l m) (hxy : Sim .f32 x y) :
    Calls Try.prog 25 #[.agg #[.slice A l.length c, .float .f32 x], .agg #[.slice B m.length d, .float .f32 y]] w fun e w' => e = .returned (.bool true) ∧ Below w.heap.size w w' := by
  have HR0 := Aside0.mk hr0
  have HR1 := Aside0.mk hr1
  have HS := Aside0.mk hs
  have HX := Aside0.mk hxy
  clear hr0 hr1 hs hxy
  go_enter Try.func25, Try.ntmps25
  go_wp2_with fail
  refine (eqF_any A B c d l m _ (Kd.C_alloc (Kd.C_alloc HR0.out _) _) (Kd.C_alloc (Kd.C_alloc HR1.out _) _) HS.out).mono ?_
  rintro e w' ⟨rfl, n1, rfl⟩
  go_wp2_with fail
  refine (sameFloat_any _ _ (wide_both _ _ HX.out) _).mono ?_
  rintro e w' ⟨rfl, n2, rfl⟩
  go_wp2
  go_ret
  exact ⟨rfl, below_drewN (below_alloc (below_alloc (Below.refl _ _) _) _) _⟩


theorem cell_step {w w1 : World} {b o : Nat} {v : Value} (h : w.cell? ⟨b, o, none⟩ = some v) (hb : Below w.heap.size w w1) : w1.cell? ⟨b, o, none⟩ = some v := (hb.cell (World.block_lt_of_cell? w _ h)).trans h
theorem cell_grown {w w1 : World} {g b o : Nat} {v : Value} (h : w.cell? ⟨b, o, none⟩ = some v) (hg : w.grownBy w1 (some g)) (hne : b ≠ g) : w1.cell? ⟨b, o, none⟩ = some v := by
  have hlt := World.block_lt_of_cell? w _ h
  exact (World.cell?_of_block (w := w) (hg.block b hlt (fun e => hne (Option.some.inj e)))).trans h
theorem cell_alloc {w : World} {b o : Nat} {v : Value} (h : w.cell? ⟨b, o, none⟩ = some v) (O : Obj) : (w.alloc O).cell? ⟨b, o, none⟩ = some v := (World.cell?_alloc_lt w O _ (World.block_lt_of_cell? w _ h)).trans h
theorem cell_size {w : World} {b o : Nat} {v : Value} (h : w.cell? ⟨b, o, none⟩ = some v) : b < w.heap.size := World.block_lt_of_cell? w _ h
end Go.Proofs.Ytbpjkghbkjdodaa
