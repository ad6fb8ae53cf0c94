/- Rows of float32 numbers: those that are read, those that the call itself makes. No program; no condition. -/
import Derived.Test.YtildgnfonpghmaaOps
import Derived.Below
import Derived.Deep.Draws
import Derived.Deep.AppendLies
import Derived.Maps.AppendAt
import Derived.OwnWalk
import Derived.Laws.MakeOwn
import Derived.Laws.OwnMore
import Derived.Deep.OwnRows
import Derived.Tactics
import Derived.Laws.Slices
import Derived.WalkKit
import Derived.KernelRfl
import Derived.RowKit3
import Derived.Deep.LoopGhost
import Derived.Deep.QuietTactic
import Derived.BigQuiet
import Derived.WideLaws
import Derived.Deep.DeepCutAuto
import Derived.Deep.CutBlock
import Derived.Deep.RegionWith
import Derived.Laws.Rows
import Derived.ArgAppend
import Derived.OrdersHeld
import Derived.RowKit
import Derived.ChangeArms
import Derived.ChangeSlices
import Derived.Test.YtildgnfonpghmaaWWords
import Derived.Test.YtildgnfonpghmaaWLast
namespace Go.Proofs.Ytildgnfonpghmaa
open Go.RowKit Go.Proofs.YtildgnfonpghmaaW.PrintWords Go.Proofs.YtildgnfonpghmaaW.PrintLast Fl

/-- a float32 as one cell -/
abbrev FK : Kd Nat := Kd.scalar (Value.float .f32) (fun _ => rfl)
theorem at_f32 {w : World} {A : Option Addr} {n : Nat} {xs : List Nat} (h : FK.C w A n xs) (i : Nat) (h1 : i < n) : ∃ ad, A = some ad ∧ w.cell? (ad.add i) = some (.float .f32 (xs.getD i 0)) := by
  obtain ⟨ad, e, hc⟩ := ReadsOf.at_ (Kd.reads_of_C (enc := Value.float .f32) (d := (0 : Nat)) (h1 := fun _ => rfl) h) (i : Int) (by omega) (by omega)
  exact ⟨ad, e, hc⟩
/-- every number of a list fits 32 bits -/
def All32 (l : List Nat) : Prop := ∀ x ∈ l, x < 4294967296
theorem All32.at_ {l : List Nat} (h : All32 l) (i : Nat) : l.getD i 0 < 4294967296 := by
  rcases Nat.lt_or_ge i l.length with g | g
  · rw [List.getD_eq_getElem?_getD, List.getElem?_eq_getElem g]; exact h _ (List.getElem_mem g)
  · rw [List.getD_eq_getElem?_getD, List.getElem?_eq_none g]; decide

section
open Go.ChangeShapes Go.WideShapes
variable {H : Type} {enc : TypeId × Value → H} {P : Program} {w : World} {base : Nat} {spare : Nat → Bool} {held : Bool}
theorem trod_float {k : FloatKind} {t : TypeId} {fuel : Nat} {cs : List Value} {x : DataW H × List MemPlace} (ht : P.underlying t = some (.float k)) (h : DataW.trod enc P w base spare held fuel t cs = some x) :
    ∃ n, cs = [.float k n] ∧ (Lit.float k n).wf = true := by
  cases fuel with
  | zero => simp [DataW.trod] at h
  | succ n =>
    unfold DataW.trod at h
    rw [ht] at h
    split at h <;> simp_all
/-- A slice of float32 that came in: its numbers. -/
theorem open_f32s {t e : TypeId} {a : Option Addr} {len cap : Nat} {d : DataW H} {ps : List MemPlace} (ht : P.underlying t = some (.slice e)) (he : P.underlying e = some (.float .f32)) (hc : P.cellsOf e = 1)
    (h : DataW.Trod enc P w base spare held t (.slice a len cap) d ps) : ∃ zs, FK.C w a len zs ∧ All32 zs := by
  obtain ⟨fuel, hf⟩ := h
  rcases DataW.trod_slice ht hf with ⟨hcs, _⟩ | ⟨x, l, c, elems, rest, n, _, hcs, _, _, hl, hm, _, hel, _, _⟩
  · simp [Value.cells] at hcs
    obtain ⟨rfl, rfl, rfl⟩ := hcs
    exact ⟨[], Kd.C_nil FK w, fun x hx => by cases hx⟩
  · simp [Value.cells] at hcs
    obtain ⟨rfl, rfl, rfl⟩ := hcs
    have each : ∀ i, i < len → ∃ b : Nat, w.cell? (x.add i) = some (.float .f32 b) ∧ b < 4294967296 := by
      intro i hi
      have h1 := hel i hi
      have hsome : ∃ y, elems[i]? = some y := by
        rename_i hlen _ _ _
        exact ⟨_, List.getElem?_eq_getElem (by omega)⟩
      obtain ⟨y, hy⟩ := hsome
      rw [hy, hc, Nat.mul_one, Option.bind_eq_some_iff] at h1
      obtain ⟨cs', hcs, hy'⟩ := h1
      obtain ⟨b, rfl, hw⟩ := trod_float he hy'
      exact ⟨b, cell_of_cells?_one hcs, (wf_iff .f32 b).1 hw⟩
    obtain ⟨g, hg⟩ := Classical.axiomOfChoice (r := fun i (b : Nat) => i < len → w.cell? (x.add i) = some (.float .f32 b) ∧ b < 4294967296) (fun i => by
      by_cases hi : i < len
      · obtain ⟨b, hb⟩ := each i hi; exact ⟨b, fun _ => hb⟩
      · exact ⟨0, fun h => absurd h hi⟩)
    refine ⟨(List.range len).map g, Kd.C_of_reads (enc := Value.float .f32) (d := (0 : Nat)) ⟨by simp, by simp only [maxLen] at hm; omega, fun _ => ⟨x, rfl, fun j hj => ?_⟩⟩, fun y hy => ?_⟩
    · rw [(hg j hj).1]
      simp [hj]
    · obtain ⟨i, hi, rfl⟩ := List.mem_map.1 hy
      exact (hg i (List.mem_range.1 hi)).2
end
theorem drawn_grown {W w w' : World} (h : Below W.heap.size W w) (hd : ∃ n, w' = w.drewN n) : Below W.heap.size W w' := by
  obtain ⟨n, rfl⟩ := hd; exact below_drewN h n
end Go.Proofs.Ytildgnfonpghmaa
