/- Slices of bytes that came in. No program; no condition. -/
import Derived.Test.YtdbcjldengemeaaWWords
import Derived.ChangeArms
import Derived.ChangeSlices
import Derived.RowKit3
namespace Go.Proofs.Ytdbcjldengemeaa
open Go.RowKit Go.Proofs.YtdbcjldengemeaaW.PrintWords
section
open Go.ChangeShapes Go.WideShapes
variable {H : Type} {enc : TypeId × Value → H} {P : Program} {w : World} {base : Nat} {held : Bool}
theorem open_u8s {t e : TypeId} {a : Option Addr} {len cap : Nat} {d : DataW H} {ps : List MemPlace} (ht : P.underlying t = some (.slice e)) (he : P.underlying e = some (.int .u8)) (hc : P.cellsOf e = 1)
    (h : DataW.Trod enc P w base (fun _ => true) held t (.slice a len cap) d ps) : ∃ zs : List Int, Kd.C (Kd.int .u8) w a len zs ∧ zs.length = len ∧ len ≤ cap ∧ ∀ n ∈ zs, 0 ≤ n ∧ n ≤ 255 := by
  have hrow : ∃ zs : List Int, (a = none ∧ len = 0 ∧ cap = 0 ∧ zs = []) ∨ ∃ x, a = some x ∧ len ≤ cap ∧ cap ≤ maxLen ∧ zs.length = cap ∧ (∀ i, i < zs.length → w.cell? (x.add i) = some (.int .u8 (zs.getD i 0))) ∧ ∀ n ∈ zs, (Lit.int .u8 n).wf = true := by
    obtain ⟨fuel, hf⟩ := h
    rcases open_ints ht he hc hf with ⟨hcs, _⟩ | ⟨x, l, c, zs, hcs, _, hl, hm, hz, _, hcell, hwz⟩
    · simp [Value.cells] at hcs
      obtain ⟨rfl, rfl, rfl⟩ := hcs
      exact ⟨[], .inl ⟨rfl, rfl, rfl, rfl⟩⟩
    · simp [Value.cells] at hcs
      obtain ⟨rfl, rfl, rfl⟩ := hcs
      exact ⟨zs, .inr ⟨_, rfl, hl, hm, by simpa using hz, hcell, hwz⟩⟩
  obtain ⟨zs, hz⟩ := hrow
  obtain ⟨l, rfl, hr, _, hw, hlc⟩ := ReadsInt.ofRowC hz
  refine ⟨l, Kd.C_of_reads (d := (0 : Int)) (h1 := fun _ => rfl) hr, rfl, hlc, fun n hn => ?_⟩
  have := hw n hn
  simp [Lit.wf] at this
  have h1 : IntKind.u8.min = 0 := rfl
  have h2 : IntKind.u8.max = 255 := rfl
  rw [h1, h2] at this
  exact this
end
end Go.Proofs.Ytdbcjldengemeaa
