/- Rows of rows of float32 numbers that came in. -/
import Derived.Test.YtbpjkghbkjdodaaSBnd0
import Derived.Test.YtbpjkghbkjdodaaRowF
import Derived.Deep.Slices
namespace Go.Proofs.Ytbpjkghbkjdodaa.SBnd
open Go.RowKit Go.Proofs.YtbpjkghbkjdodaaW.PrintWords Go.Proofs.YtbpjkghbkjdodaaW.PrintLast Go.ChangeShapes Go.WideShapes Go.Deep
section
variable {H : Type} {enc : TypeId × Value → H} {P : Program} {w : World} {base : Nat} {spare : Nat → Bool} {held : Bool}
theorem open_f32_row {t e : TypeId} {fuel : Nat} {v : Value} {x : DataW H × List MemPlace} (ht : P.underlying t = some (.slice e)) (he : P.underlying e = some (.float .f32)) (hc : P.cellsOf e = 1)
    (h : DataW.trod enc P w base spare held fuel t [v] = some x) : ∃ A c zs, v = .slice A zs.length c ∧ zs.length ≤ c ∧ FKI.C w A zs.length zs := by
  rcases open_slice1 ht hc h with ⟨hcs, _⟩ | ⟨a, len, cap, m, n, V, D, Pl, hcs, _, hl, hm, hmm, _, hx⟩
  · obtain rfl : v = .slice none 0 0 := by simpa using hcs
    exact ⟨none, 0, [], rfl, Nat.le_refl _, Kd.C_nil FKI w⟩
  · obtain rfl : v = .slice (some a) len cap := by simpa using hcs
    have hlm : len ≤ m := by rw [hmm]; split <;> omega
    have each : ∀ i, i < len → ∃ b : Nat, w.cell? (a.add i) = some (.float .f32 b) := by
      intro i hi
      obtain ⟨h1, h2⟩ := hx i (by omega)
      obtain ⟨b, hb, _⟩ := trod_float he h2
      exact ⟨b, by rw [h1]; simpa using hb⟩
    obtain ⟨g, hg⟩ := Classical.axiomOfChoice (r := fun i (b : Nat) => i < len → w.cell? (a.add i) = some (.float .f32 b)) (fun i => by
      by_cases hi : i < len
      · obtain ⟨b, hb⟩ := each i hi; exact ⟨b, fun _ => hb⟩
      · exact ⟨0, fun h => absurd h hi⟩)
    have hlen : ((List.range len).map fun i => (g i : Int)).length = len := by simp
    refine ⟨some a, cap, (List.range len).map fun i => (g i : Int), by rw [hlen], by rw [hlen]; exact hl, ?_⟩
    rw [hlen]
    refine Kd.C_of_reads (enc := FV) (d := (0 : Int)) ⟨hlen, by simp only [maxLen] at hm; omega, fun _ => ⟨a, rfl, fun j hj => ?_⟩⟩
    rw [hg j hj]
    simp [hj]
theorem open_f32ss {t e q : TypeId} {a : Option Addr} {len cap : Nat} {d : DataW H} {ps : List MemPlace} (ht : P.underlying t = some (.slice e)) (he : P.underlying e = some (.slice q)) (hq : P.underlying q = some (.float .f32)) (ce : P.cellsOf e = 1) (cq : P.cellsOf q = 1)
    (h : DataW.Trod enc P w base spare held t (.slice a len cap) d ps) : ∃ zs : List (List Int), (Kd.slice 34 FKI).C w a len zs ∧ zs.length = len ∧ len ≤ cap := by
  obtain ⟨fuel, hf⟩ := h
  have hf' : DataW.trod enc P w base spare held fuel t [.slice a len cap] = some (d, ps) := hf
  rcases open_slice1 ht ce hf' with ⟨hcs, _⟩ | ⟨a', len', cap', m, n, V, D, Pl, hcs, _, hl, hm, hmm, _, hx⟩
  · simp at hcs
    obtain ⟨rfl, rfl, rfl⟩ := hcs
    exact ⟨[], Kd.C_nil (Kd.slice 34 FKI) w, rfl, Nat.le_refl _⟩
  · simp at hcs
    obtain ⟨rfl, rfl, rfl⟩ := hcs
    have hlm : len ≤ m := by rw [hmm]; split <;> omega
    obtain ⟨g, hg⟩ := Classical.axiomOfChoice (r := fun i (z : List Int) => i < len → ∃ A c, w.cell? (a'.add i) = some (.slice A z.length c) ∧ z.length ≤ c ∧ FKI.C w A z.length z) (fun i => by
      by_cases hi : i < len
      · obtain ⟨h1, h2⟩ := hx i (by omega)
        obtain ⟨A, c, zs, hv, hl, hC⟩ := open_f32_row he hq cq h2
        exact ⟨zs, fun _ => ⟨A, c, by rw [h1, hv], hl, hC⟩⟩
      · exact ⟨[], fun h => absurd h hi⟩)
    refine ⟨(List.range len).map g, ⟨by simp, by simp only [maxLen] at hm; omega, fun _ => ⟨a', rfl, fun j p hj => ?_⟩⟩, by simp, hl⟩
    rw [List.getElem?_map] at hj
    obtain ⟨i, hi, rfl⟩ := Option.map_eq_some_iff.1 hj
    obtain ⟨hlt, he2⟩ := List.getElem?_eq_some_iff.1 hi
    rw [List.getElem_range] at he2
    subst he2
    rw [List.length_range] at hlt
    obtain ⟨A, c, h1, h2, h3⟩ := hg j hlt
    refine ⟨[.slice A (g j).length c], rfl, ⟨A, c, rfl, h2, h3⟩, fun i u hu => ?_⟩
    rcases i with _ | i
    · have : Value.slice A (g j).length c = u := by simpa using hu
      subst this
      simpa [Kd.slice] using h1
    · simp at hu
end
end Go.Proofs.Ytbpjkghbkjdodaa.SBnd
