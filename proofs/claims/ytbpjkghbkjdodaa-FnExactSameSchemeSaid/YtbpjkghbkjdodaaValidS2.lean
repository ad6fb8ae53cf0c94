/- Valid schemes: the two answers for all arguments. -/
import Derived.Test.YtbpjkghbkjdodaaValidS
namespace Go.Proofs.Ytbpjkghbkjdodaa
open Go.RowKit Go.Proofs.YtbpjkghbkjdodaaW.PrintWords Go.Proofs.YtbpjkghbkjdodaaW.PrintLast Fl
set_option maxHeartbeats 1000000 in
set_option maxRecDepth 100000 in
theorem ValidScheme_any (A : Option Addr) (c x : Nat) (l : List Nat) (w : World) (hr0 : FK.C w A l.length l) (hc : l.length ≤ c) :
    Calls Try.prog 24 #[.agg #[.slice A l.length c, .float .f32 x]] w fun e w' => e = .returned (.bool (validB l x)) ∧ Below w.heap.size w w' := by
  have HR0 := Aside0.mk hr0
  have HC := Aside0.mk hc
  have hmx := Kd.C_max hr0
  clear hr0 hc
  by_cases h1 : 1 ≤ l.length
  · have h1' : decide (1 ≤ (l.length : Int)) = true := by simp; omega
    by_cases h2 : l.length ≤ 8
    · have h2' : decide ((l.length : Int) ≤ 8) = true := by simp; omega
      cases hf : finL l with
      | true =>
        have H := Lib.hid (show validB l x = overB x by unfold validB; rw [decide_eq_true ⟨h1, h2⟩, hf]; rfl)
        clear h1 h2
        go_enter Try.func24, Try.ntmps24
        go_wp2_with (go_at_call 55; go_in)
        refine (areFinite_any (some ⟨w.heap.size + 1, 0, none⟩) 1 [l] _ (one_row (Kd.C_alloc (Kd.C_alloc HR0.out _) _) HC.out (by simp))).mono ?_
        have hb : ([l].all finL) = true := by simp [hf]
        rw [hb]
        rintro e w' ⟨rfl, n, rfl⟩
        go_wp2_with (go_at_call 56; refine (isOver_any _ _).mono ?_; rintro e w' ⟨rfl, n, rfl⟩)
        go_ret
        exact ⟨ret_bool H.out.symm, by repeat (first | exact Below.refl _ _ | apply below_drewN | apply below_alloc)⟩
      | false =>
        have H := Lib.hid (show validB l x = false by unfold validB; rw [hf]; simp)
        clear h1 h2
        go_enter Try.func24, Try.ntmps24
        go_wp2_with (go_at_call 55; go_in)
        refine (areFinite_any (some ⟨w.heap.size + 1, 0, none⟩) 1 [l] _ (one_row (Kd.C_alloc (Kd.C_alloc HR0.out _) _) HC.out (by simp))).mono ?_
        have hb : ([l].all finL) = false := by simp [hf]
        rw [hb]
        rintro e w' ⟨rfl, n, rfl⟩
        go_wp2
        go_ret
        exact ⟨ret_bool H.out.symm, by repeat (first | exact Below.refl _ _ | apply below_drewN | apply below_alloc)⟩
    · have h2' : decide ((l.length : Int) ≤ 8) = false := by simp; omega
      have H := Lib.hid (show validB l x = false by unfold validB; rw [decide_eq_false (by omega)]; rfl)
      clear h1 h2
      go_enter Try.func24, Try.ntmps24
      go_wp2_with (go_at_call 55; go_in)
      go_ret
      exact ⟨ret_bool H.out.symm, by repeat (first | exact Below.refl _ _ | apply below_drewN | apply below_alloc)⟩
  · have h1' : decide (1 ≤ (l.length : Int)) = false := by simp; omega
    have H := Lib.hid (show validB l x = false by unfold validB; rw [decide_eq_false (by omega)]; rfl)
    clear h1
    go_enter Try.func24, Try.ntmps24
    go_wp2_with (go_at_call 55; go_in)
    go_ret
    exact ⟨ret_bool H.out.symm, by repeat (first | exact Below.refl _ _ | apply below_drewN | apply below_alloc)⟩

set_option maxHeartbeats 1000000 in
set_option maxRecDepth 100000 in
theorem l02Scheme_any (A : Option Addr) (b c x : Nat) (l : List Nat) (w : World) (hr0 : FK.C w A l.length l) (hs : w.cell? ⟨b, 0, none⟩ = some (.slice A l.length c)) (hx : w.cell? ⟨b, 1, none⟩ = some (.float .f32 x)) :
    Calls Try.prog 54 #[.pointer (some ⟨b, 0, none⟩)] w fun e w' => e = .returned (.bool (validB l x)) ∧ Below w.heap.size w w' := by
  have HR0 := Aside0.mk hr0
  have hmx := Kd.C_max hr0
  have hxd : ∀ n, (w.drewN n).cell? ⟨b, 1, none⟩ = some (.float .f32 x) := fun n => hx
  clear hr0
  by_cases h1 : 1 ≤ l.length
  · have h1' : decide (1 ≤ (l.length : Int)) = true := by simp; omega
    by_cases h2 : l.length ≤ 8
    · have h2' : decide ((l.length : Int) ≤ 8) = true := by simp; omega
      cases hf : finL l with
      | true =>
        have H := Lib.hid (show validB l x = overB x by unfold validB; rw [decide_eq_true ⟨h1, h2⟩, hf]; rfl)
        clear h1 h2
        go_enter Try.func54, Try.ntmps54
        go_wp2_with fail
        refine (l02Finite_any A c l _ HR0.out).mono ?_
        rw [hf]
        rintro e w' ⟨rfl, n, rfl⟩
        go_wp2_with (go_at_call 80; refine (l02Above_any _ _).mono ?_; rintro e w' ⟨rfl, n, rfl⟩)
        go_ret
        exact ⟨ret_bool H.out.symm, by repeat (first | exact Below.refl _ _ | apply below_drewN | apply below_alloc)⟩
      | false =>
        have H := Lib.hid (show validB l x = false by unfold validB; rw [hf]; simp)
        clear h1 h2
        go_enter Try.func54, Try.ntmps54
        go_wp2_with fail
        refine (l02Finite_any A c l _ HR0.out).mono ?_
        rw [hf]
        rintro e w' ⟨rfl, n, rfl⟩
        go_wp2
        go_ret
        exact ⟨ret_bool H.out.symm, by repeat (first | exact Below.refl _ _ | apply below_drewN | apply below_alloc)⟩
    · have h2' : decide ((l.length : Int) ≤ 8) = false := by simp; omega
      have H := Lib.hid (show validB l x = false by unfold validB; rw [decide_eq_false (by omega)]; rfl)
      clear h1 h2
      go_enter Try.func54, Try.ntmps54
      go_wp2
      go_ret
      exact ⟨ret_bool H.out.symm, by repeat (first | exact Below.refl _ _ | apply below_drewN | apply below_alloc)⟩
  · have h1' : decide (1 ≤ (l.length : Int)) = false := by simp; omega
    have H := Lib.hid (show validB l x = false by unfold validB; rw [decide_eq_false (by omega)]; rfl)
    clear h1
    go_enter Try.func54, Try.ntmps54
    go_wp2
    go_ret
    exact ⟨ret_bool H.out.symm, by repeat (first | exact Below.refl _ _ | apply below_drewN | apply below_alloc)⟩
end Go.Proofs.Ytbpjkghbkjdodaa
