/- The law's copy of a scheme. -/
import Derived.Test.YtbpjkghbkjdodaaValidS2
namespace Go.Proofs.Ytbpjkghbkjdodaa
open Go.RowKit Go.Proofs.YtbpjkghbkjdodaaW.PrintWords Go.Proofs.YtbpjkghbkjdodaaW.PrintLast Fl
set_option maxHeartbeats 1000000 in
set_option maxRecDepth 100000 in
theorem toScheme_any (A : Option Addr) (c x : Nat) (l : List Nat) (w : World) (hr0 : FK.C w A l.length l) (hn : l.length ≤ 1048576) :
    Calls Try.prog 23 #[.agg #[.slice A l.length c, .float .f32 x]] w fun e w' => ∃ v : Value, e = .returned (.agg #[v, .float .f32 x]) ∧ FK.R 34 w' w.heap.size (fun _ => True) v l ∧ Below w.heap.size w w' := by
  have HR0 := Aside0.mk hr0
  clear hr0
  go_enter Try.func23, Try.ntmps23
  go_wp2_with fail
  refine (toF_any A c l _ (Kd.C_alloc (Kd.C_alloc (Kd.C_alloc HR0.out _) _) _) hn).mono ?_
  rintro e w1 ⟨v, rfl, r1, bb⟩
  obtain ⟨A1, c1, rfl, hle, k1⟩ := Kd.R_reads r1
  have R1 := Aside0.mk r1
  have HLE := Aside0.mk hle
  clear k1 hle
  have B1 := Aside0.mk bb
  have p0 : w1.cell? ⟨w.heap.size, 1, none⟩ = some (.float .f32 x) := cell_step (cell_alloc (cell_alloc (by simp) _) _) bb
  have p1 : w1.cell? ⟨w.heap.size + 1 + 1, 0, none⟩ = some (.slice none 0 0) := cell_step ((World.cell?_alloc_at _ _ _ _ (by simp)).trans rfl) bb
  have p2 : w1.cell? ⟨w.heap.size + 1 + 1, 1, none⟩ = some (.float .f32 0) := cell_step ((World.cell?_alloc_at _ _ _ _ (by simp)).trans rfl) bb
  have p3 : w1.cell? ⟨w.heap.size + 1, 0, none⟩ = some (.slice none 0 0) := cell_step ((World.cell?_alloc_past _ _ _ (by simp)).trans ((World.cell?_alloc_at _ _ _ _ (by simp)).trans rfl)) bb
  have p4 : w1.cell? ⟨w.heap.size + 1, 1, none⟩ = some (.float .f32 0) := cell_step ((World.cell?_alloc_past _ _ _ (by simp)).trans ((World.cell?_alloc_at _ _ _ _ (by simp)).trans rfl)) bb
  have z1 : ∀ i, w1.frozen? ⟨w.heap.size + 1 + 1, i, none⟩ = false := fun i => (bb.frozen (by simp)).trans (World.frozen?_alloc_at _ _ _ _ (by simp))
  have z2 : ∀ i, w1.frozen? ⟨w.heap.size + 1, i, none⟩ = false := fun i => (bb.frozen (by simp)).trans ((World.frozen?_alloc_past _ _ _ (by simp)).trans (World.frozen?_alloc_at _ _ _ _ (by simp)))
  clear r1 bb
  go_wp2
  refine bodyPost_ret (v := .agg #[.slice A1 l.length c1, .float .f32 x]) (by simp [results, Try.results23, p3, p4, go_sem]) rfl ⟨_, rfl, ?_, ?_⟩
  · have hb := Kd.R_mono (Kd.R_bound R1.out) (ok' := fun k => w.heap.size + 1 + 1 < k) (fun k hk => by have := hk.2.1; simp at this; omega)
    refine Kd.R_lower (Kd.R_mono (Kd.R_far (Kd.R_far (Kd.R_far (Kd.R_far hb ?_ _) ?_ _) ?_ _) ?_ _) (fun _ _ => trivial)) (by simp; omega) <;> (intro k hk; simp only; omega)
  · refine Below.setCell (Below.setCell (Below.setCell (Below.setCell (Below.trans (below_alloc (below_alloc (below_alloc (Below.refl _ w) _) _) _) (B1.out.mono (by simp; omega))) ?_ _) ?_ _) ?_ _) ?_ _ <;> (simp only; omega)
end Go.Proofs.Ytbpjkghbkjdodaa
