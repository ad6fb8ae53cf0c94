/- Structures of a slice of float32 numbers and one number (Scheme) that came in. No program; no condition. -/
import Derived.Test.YtbpjkghbkjdodaaRowF
import Derived.ChangeSame
namespace Go.Proofs.Ytbpjkghbkjdodaa
open Go.RowKit Go.Proofs.YtbpjkghbkjdodaaW.PrintWords Fl
section
open Go.ChangeShapes Go.WideShapes
variable {H : Type} {enc : TypeId × Value → H} {P : Program} {w : World} {base : Nat} {spare : Nat → Bool} {held : Bool}
theorem open_scheme {t e : TypeId} {f0 f1 : Field} {v : Value} {r : Reach} {d : DataW H} {ps : List MemPlace} (ht : P.underlying t = some (.struct #[f0, f1])) (hs : P.underlying f0.type = some (.slice e)) (he : P.underlying e = some (.float .f32)) (hce : P.cellsOf e = 1)
    (hf : P.underlying f1.type = some (.float .f32)) (h0 : f0.offset = 0) (h1 : f1.offset = 1) (c0 : P.cellsOf f0.type = 1) (c1 : P.cellsOf f1.type = 1) (ct : P.cellsOf t = 2)
    {b0 : Nat} (hval : Value.okWide P w r b0 t v) (h : DataW.Trod enc P w base spare held t v d ps) : ∃ a len cap x zs, v = .agg #[.slice a len cap, .float .f32 x] ∧ FK.C w a len zs ∧ All32 zs ∧ x < 4294967296 := by
  obtain ⟨cs, rfl, hsz⟩ := okWide_struct ht hval
  obtain ⟨fuel, hf'⟩ := h
  obtain ⟨y0, y1, n, _, hl, ha, hb⟩ := trod_struct2 ht hf'
  rw [h0, c0] at ha
  rw [h1, c1] at hb
  simp [Value.cells] at ha hb
  rw [ct] at hsz
  obtain ⟨l⟩ := cs
  match l, hsz with
  | [u, z], _ =>
    simp at ha hb
    obtain ⟨x, hz, hw⟩ := trod_float hf hb
    simp at hz
    subst hz
    have hu : ∃ a len cap, u = .slice a len cap := by
      rcases DataW.trod_slice hs ha with ⟨hcs, _⟩ | ⟨x, l, c, elems, rest, n, _, hcs, _, _, hl, hm, _, hel, _, _⟩
      · simp at hcs; exact ⟨_, _, _, hcs⟩
      · simp at hcs; exact ⟨_, _, _, hcs⟩
    obtain ⟨a, len, cap, rfl⟩ := hu
    obtain ⟨zs, hz, hall⟩ := open_f32s (d := y0.1) (ps := y0.2) hs he hce (a := a) (len := len) (cap := cap) (enc := enc) (base := base) (spare := spare) (held := held) ⟨n, ha⟩
    exact ⟨a, len, cap, x, zs, rfl, hz, hall, (wf_iff .f32 x).1 hw⟩
end
end Go.Proofs.Ytbpjkghbkjdodaa
