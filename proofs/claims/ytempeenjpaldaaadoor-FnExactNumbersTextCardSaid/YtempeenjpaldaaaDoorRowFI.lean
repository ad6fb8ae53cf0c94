/- Rows of float32 numbers that came in, told by their bits. -/
import Derived.Test.YtempeenjpaldaaaDoorSNum0
import Derived.Test.YtempeenjpaldaaaDoorRowF
import Derived.Deep.Slices
namespace Go.Proofs.YtempeenjpaldaaaDoor.SNum
open Go.RowKit Go.Proofs.YtempeenjpaldaaaDoorW.PrintWords Go.Proofs.YtempeenjpaldaaaDoorW.PrintLast Go.ChangeShapes Go.WideShapes Go.Deep
theorem C_ints {w : World} {A : Option Addr} {n : Nat} {xs : List Nat} (h : FK.C w A n xs) : FKI.C w A n (xs.map Int.ofNat) := by
  obtain ⟨h1, h2, h3⟩ := h
  refine ⟨by rw [List.length_map]; exact h1, h2, fun hn => ?_⟩
  obtain ⟨ad, e, hc⟩ := h3 hn
  refine ⟨ad, e, fun j p hj => ?_⟩
  obtain ⟨q, hq, rfl⟩ := by simpa using hj
  exact hc j q hq
section
variable {H : Type} {enc : TypeId × Value → H} {P : Program} {w : World} {base : Nat} {spare : Nat → Bool} {held : Bool}
theorem open_f32i {t e : TypeId} {a : Option Addr} {len cap : Nat} {d : DataW H} {ps : List MemPlace} (ht : P.underlying t = some (.slice e)) (he : P.underlying e = some (.float .f32)) (hc : P.cellsOf e = 1)
    (h : DataW.Trod enc P w base spare held t (.slice a len cap) d ps) : ∃ zs : List Int, FKI.C w a zs.length zs ∧ zs.length = len ∧ len ≤ cap ∧ ∀ x ∈ zs, x.toNat < 4294967296 := by
  obtain ⟨zs, h1, h2⟩ := open_f32s ht he hc h
  have hl := Kd.C_len h1
  have hcap : len ≤ cap := by
    obtain ⟨fuel, hf⟩ := h
    have hf' : DataW.trod enc P w base spare held fuel t [.slice a len cap] = some (d, ps) := hf
    rcases open_slice1 ht hc hf' with ⟨hcs, _⟩ | ⟨a', len', cap', m, n, V, D, Pl, hcs, _, hl, _⟩
    · simp at hcs
      obtain ⟨rfl, rfl, rfl⟩ := hcs
      exact Nat.le_refl _
    · simp at hcs
      obtain ⟨rfl, rfl, rfl⟩ := hcs
      exact hl
  refine ⟨zs.map Int.ofNat, ?_, by rw [List.length_map]; exact hl, hcap, fun x hx => ?_⟩
  · rw [List.length_map, hl]; exact C_ints h1
  · obtain ⟨y, hy, rfl⟩ := List.mem_map.1 hx
    exact h2 y hy
end
end Go.Proofs.YtempeenjpaldaaaDoor.SNum
