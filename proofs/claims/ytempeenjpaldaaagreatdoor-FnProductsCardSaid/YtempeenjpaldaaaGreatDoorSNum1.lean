/- The machine's side: what each function comes to; begun as the print's text over turned bodies. -/
import Derived.Test.YtempeenjpaldaaaGreatDoorSNum0
import Derived.Test.YtempeenjpaldaaaGreatDoorShelf
import Derived.Test.YtempeenjpaldaaaGreatDoorHexOf
import Derived.Test.YtempeenjpaldaaaGreatDoorEqF
namespace Go.Proofs.YtempeenjpaldaaaGreatDoor.SNum
open Go.RowKit Go.Proofs.YtempeenjpaldaaaGreatDoorW.PrintWords Go.Proofs.YtempeenjpaldaaaGreatDoorW.PrintLast Go.Proofs.YtempeenjpaldaaaGreatDoorW.PrintMore
attribute [local go_sem] max2_int min2_int max_two min_two max_three min_three max_four min_four   -- for this text's walks alone
set_option linter.unusedVariables false
set_option linter.unusedSimpArgs false

/-- the entry of the laid table that the library's text at base 16 reads -/
abbrev TH (w : World) : Prop := Hx.TB w
theorem TH.on {w w1 : World} (h : TH w) (hb : Below w.heap.size w w1) : TH w1 := Hx.TB.on h hb

/-! ### spec_l01Few: function 35 -/
def spec_l01Few.f (l0 : List Int) : Option (Bool) := some (decide ((l0.length : Int) ≤ 256))
/-! ### spec_l01Bits: for all numbers -/
def spec_l01Bits.f (a0 : Int) : Option (Int) := if a0.toNat < 4294967296 then some (bitsN a0.toNat) else none
theorem spec_l01Bits.calls (a0 : Int) (r : Int) (w : World) (h : spec_l01Bits.f a0 = some r) :
    Calls Tryz.prog 78 #[FV a0] w fun e w' => e = .returned (.int .i64 r) ∧ Drawn0 w w' := by
  unfold spec_l01Bits.f at h
  split at h
  · rename_i hx
    obtain rfl := Option.some.inj h
    refine (l01Bits_any a0.toNat hx w).mono ?_
    rintro e w' ⟨rfl, rfl⟩
    exact ⟨rfl, Drawn0.refl _⟩
  · cases h


/-! ### spec_l01Hex: function 57 -/
def spec_l01Hex.l0 : Nat → Int → List Int → Int → Option (ByteArray)
  | 0, _, _, _ => none
  | k + 1, x3, x4, x5 => if x5 ≥ 0 then (if 0 ≤ (IntKind.u64.wrap (x5)) then (if 0 ≤ (Go.bits .and .i64 (shr .i64 x3 (IntKind.u64.wrap (x5))) 15) then (if (Go.bits .and .i64 (shr .i64 x3 (IntKind.u64.wrap (x5))) 15) < 16 then (if x4.length < 140737488355328 then (spec_l01Hex.l0 k x3 (x4 ++ [bt (⟨#[48, 49, 50, 51, 52, 53, 54, 55, 56, 57, 97, 98, 99, 100, 101, 102]⟩ : ByteArray) (Go.bits .and .i64 (shr .i64 x3 (IntKind.u64.wrap (x5))) 15)]) (wrap64 (x5 - 4))) else (none)) else (none)) else (none)) else (none)) else (some (strOfNums x4))
def spec_l01Hex.f (k : Nat) (a0 : Int) : Option (ByteArray) := (spec_l01Bits.f a0).bind fun t101 => (spec_l01Hex.l0 k t101 (([] : List Int)) 28)
theorem spec_l01Hex.mono_l : ∀ k, (∀ y0 y1 y2, LeO (spec_l01Hex.l0 k y0 y1 y2) (spec_l01Hex.l0 (k + 1) y0 y1 y2))
  | 0 => fun _ _ _ r h => by simp [spec_l01Hex.l0] at h
  | k + 1 => by
    have ih0 := spec_l01Hex.mono_l k
    · intro y0 y1 y2
      unfold spec_l01Hex.l0
      repeat' first
      | (with_reducible exact ih0 _ _ _)
      | (with_reducible exact LeO.refl _)
      | (with_reducible exact LeO.none _)
      | (with_reducible refine LeO.ite ?_ ?_)
      | (with_reducible refine LeO.bind ?_ (fun _ => ?_))
      | exact ih0 _ _ _
      | exact LeO.none _
      | refine LeO.ite ?_ ?_
      | refine LeO.bind ?_ (fun _ => ?_)
theorem spec_l01Hex.mono : ∀ a0 k, LeO (spec_l01Hex.f k a0) (spec_l01Hex.f (k + 1) a0) := by
  intro a0 k
  have ih0 := spec_l01Hex.mono_l k
  unfold spec_l01Hex.f
  repeat' first
      | (with_reducible exact ih0 _ _ _)
      | (with_reducible exact LeO.refl _)
      | (with_reducible exact LeO.none _)
      | (with_reducible refine LeO.ite ?_ ?_)
      | (with_reducible refine LeO.bind ?_ (fun _ => ?_))
      | exact ih0 _ _ _
      | exact LeO.none _
      | refine LeO.ite ?_ ?_
      | refine LeO.bind ?_ (fun _ => ?_)
/-! ### spec_l01NText: function 36 -/
def spec_l01NText.l0 : Nat → List Int → ByteArray → Int → Option (ByteArray)
  | 0, _, _, _ => none
  | k + 1, x0, x3, x4 => if x4 < (x0.length : Int) then (if 0 ≤ x4 then ((spec_l01Hex.f k (rd x0 x4)).bind fun t111 => (if 1 + t111.size ≤ 9223372036854775807 then (if x3.size + ((⟨#[44]⟩ : ByteArray) ++ t111).size ≤ 9223372036854775807 then (spec_l01NText.l0 k x0 (x3 ++ ((⟨#[44]⟩ : ByteArray) ++ t111)) (wrap64 (x4 + 1))) else (none)) else (none))) else (none)) else (some x3)
def spec_l01NText.f (k : Nat) (l0 : List Int) : Option (ByteArray) := if (l0.length : Int) = 0 then (some (⟨#[110, 111, 110, 101]⟩ : ByteArray)) else (if 0 < (l0.length : Int) then ((spec_l01Hex.f k (rd l0 0)).bind fun t109 => (spec_l01NText.l0 k l0 t109 1)) else (none))
theorem spec_l01NText.mono_l : ∀ k, (∀ y0 y1 y2, LeO (spec_l01NText.l0 k y0 y1 y2) (spec_l01NText.l0 (k + 1) y0 y1 y2))
  | 0 => fun _ _ _ r h => by simp [spec_l01NText.l0] at h
  | k + 1 => by
    have ih0 := spec_l01NText.mono_l k
    · intro y0 y1 y2
      unfold spec_l01NText.l0
      repeat' first
      | (with_reducible exact ih0 _ _ _)
      | (with_reducible exact spec_l01Hex.mono _ _)
      | (with_reducible exact LeO.refl _)
      | (with_reducible exact LeO.none _)
      | (with_reducible refine LeO.ite ?_ ?_)
      | (with_reducible refine LeO.bind ?_ (fun _ => ?_))
      | exact ih0 _ _ _
      | exact spec_l01Hex.mono _ _
      | exact LeO.none _
      | refine LeO.ite ?_ ?_
      | refine LeO.bind ?_ (fun _ => ?_)
theorem spec_l01NText.mono : ∀ a0 k, LeO (spec_l01NText.f k a0) (spec_l01NText.f (k + 1) a0) := by
  intro a0 k
  have ih0 := spec_l01NText.mono_l k
  unfold spec_l01NText.f
  repeat' first
      | (with_reducible exact ih0 _ _ _)
      | (with_reducible exact spec_l01Hex.mono _ _)
      | (with_reducible exact LeO.refl _)
      | (with_reducible exact LeO.none _)
      | (with_reducible refine LeO.ite ?_ ?_)
      | (with_reducible refine LeO.bind ?_ (fun _ => ?_))
      | exact ih0 _ _ _
      | exact spec_l01Hex.mono _ _
      | exact LeO.none _
      | refine LeO.ite ?_ ?_
      | refine LeO.bind ?_ (fun _ => ?_)
/-! ### spec_NumbersText: function 10 -/
def spec_NumbersText.f (k : Nat) (l0 : List Int) : Option (ByteArray × Bool) := (spec_l01Few.f l0).bind fun t112 => (if t112 = true then ((spec_l01NText.f k l0).bind fun t113 => (some (t113, true))) else (some ((⟨#[]⟩ : ByteArray), false)))
theorem spec_NumbersText.mono : ∀ a0 k, LeO (spec_NumbersText.f k a0) (spec_NumbersText.f (k + 1) a0) := by
  intro a0 k
  unfold spec_NumbersText.f
  repeat' first
      | (with_reducible exact spec_l01NText.mono _ _)
      | (with_reducible exact LeO.refl _)
      | (with_reducible exact LeO.none _)
      | (with_reducible refine LeO.ite ?_ ?_)
      | (with_reducible refine LeO.bind ?_ (fun _ => ?_))
      | exact spec_l01NText.mono _ _
      | exact LeO.none _
      | refine LeO.ite ?_ ?_
      | refine LeO.bind ?_ (fun _ => ?_)
/-! ### laws_toFloat32S: function 11 -/
def laws_toFloat32S.l0 : Nat → List Int → List Int → Int → Option (List Int)
  | 0, _, _, _ => none
  | k + 1, x0, x3, x4 => if x4 < (x0.length : Int) then (if 0 ≤ x4 then (if x4 < (x3.length : Int) then (laws_toFloat32S.l0 k x0 (x3.set (x4 : Int).toNat (rd x0 x4)) (wrap64 (x4 + 1))) else (none)) else (none)) else (some x3)
def laws_toFloat32S.f (k : Nat) (l0 : List Int) : Option (List Int) := if 0 ≤ (l0.length : Int) then (if ((l0.length : Int) : Int).toNat ≤ 70368744177664 then (laws_toFloat32S.l0 k l0 (List.replicate ((l0.length : Int) : Int).toNat 0) 0) else (none)) else (none)
theorem laws_toFloat32S.mono_l : ∀ k, (∀ y0 y1 y2, LeO (laws_toFloat32S.l0 k y0 y1 y2) (laws_toFloat32S.l0 (k + 1) y0 y1 y2))
  | 0 => fun _ _ _ r h => by simp [laws_toFloat32S.l0] at h
  | k + 1 => by
    have ih0 := laws_toFloat32S.mono_l k
    · intro y0 y1 y2
      unfold laws_toFloat32S.l0
      repeat' first
      | (with_reducible exact ih0 _ _ _)
      | (with_reducible exact LeO.refl _)
      | (with_reducible exact LeO.none _)
      | (with_reducible refine LeO.ite ?_ ?_)
      | (with_reducible refine LeO.bind ?_ (fun _ => ?_))
      | exact ih0 _ _ _
      | exact LeO.none _
      | refine LeO.ite ?_ ?_
      | refine LeO.bind ?_ (fun _ => ?_)
theorem laws_toFloat32S.mono : ∀ a0 k, LeO (laws_toFloat32S.f k a0) (laws_toFloat32S.f (k + 1) a0) := by
  intro a0 k
  have ih0 := laws_toFloat32S.mono_l k
  unfold laws_toFloat32S.f
  repeat' first
      | (with_reducible exact ih0 _ _ _)
      | (with_reducible exact LeO.refl _)
      | (with_reducible exact LeO.none _)
      | (with_reducible refine LeO.ite ?_ ?_)
      | (with_reducible refine LeO.bind ?_ (fun _ => ?_))
      | exact ih0 _ _ _
      | exact LeO.none _
      | refine LeO.ite ?_ ?_
      | refine LeO.bind ?_ (fun _ => ?_)
/-! ### impl_hexOf: for all numbers -/
def impl_hexOf.f (k : Nat) (a0 : Int) : Option (ByteArray) := if a0.toNat < 4294967296 then some ⟨(Hx.hex8 (bitsN a0.toNat).toNat).toArray⟩ else none
theorem impl_hexOf.mono : ∀ a0 k, LeO (impl_hexOf.f k a0) (impl_hexOf.f (k + 1) a0) := fun _ _ => LeO.refl _
theorem impl_hexOf.calls (k : Nat) (a0 : Int) (r : ByteArray) (w : World) (h : impl_hexOf.f k a0 = some r) (HT : Aside0 (TH w)) :
    Calls Tryz.prog 48 #[FV a0] w fun e w' => e = .returned (.string r) ∧ Below w.heap.size w w' := by
  unfold impl_hexOf.f at h
  split at h
  · rename_i hx
    obtain rfl := Option.some.inj h
    exact Hx.hexOf_any a0.toNat hx w HT.out
  · cases h


/-! ### strings_Join: by the library's contract -/
theorem spot_none {w : World} {a : Addr} {v : Value} (h : w.cell? a = some v) : a.spot = none := by
  unfold World.cell? at h
  split at h
  · split at h
    · cases h
    · rename_i hs; simpa using hs
  · cases h
/-- the cells of a row of strings that is read -/
theorem cells_str {w : World} {A : Option Addr} {l : List ByteArray} (h : Kd.C Kd.string w A l.length l) (hl : 0 < l.length) : ∃ b o, A = some ⟨b, o, none⟩ ∧ b < w.heap.size ∧ ∀ (j : Nat) x, l[j]? = some x → w.cell? ⟨b, o + j, none⟩ = some (.string x) := by
  have hat := fun (i : Nat) (hi : i < l.length) => ReadsOf.at_ (Kd.reads_of_C (enc := Value.string) (d := ByteArray.empty) (h1 := fun _ => rfl) h) (i : Int) (by omega) (by omega)
  obtain ⟨ad, e, h0⟩ := hat 0 hl
  obtain ⟨b, o, sp⟩ := ad
  have hs : sp = none := spot_none h0
  subst hs
  refine ⟨b, o, e, World.block_lt_of_cell? w _ h0, fun j x hj => ?_⟩
  obtain ⟨hlt, hx⟩ := List.getElem?_eq_some_iff.1 hj
  obtain ⟨ad, e1, h1⟩ := hat j hlt
  rw [e] at e1
  cases e1
  have ev : rdOf ByteArray.empty l (j : Int) = x := by unfold rdOf; rw [Int.toNat_natCast, List.getD_eq_getElem?_getD, hj]; rfl
  rw [Int.toNat_natCast, ev] at h1
  rcases Nat.eq_zero_or_pos j with rfl | hp
  · simpa [Addr.add] using h1
  · rw [Addr.add, if_neg (by omega)] at h1
    exact h1
def joinB (l : List ByteArray) (s : ByteArray) : List UInt8 := Lib.join (l.map (·.data.toList)) s.data.toList
def strings_Join.f (k : Nat) (l0 : List ByteArray) (a1 : ByteArray) : Option (ByteArray) := if (joinB l0 a1).length ≤ 140737488355328 ∧ l0.length ≤ 140737488355328 then some ⟨(joinB l0 a1).toArray⟩ else none
theorem strings_Join.mono : ∀ a0 a1 k, LeO (strings_Join.f k a0 a1) (strings_Join.f (k + 1) a0 a1) := fun _ _ _ => LeO.refl _
theorem strings_Join.calls (k : Nat) (A0 : Option Addr) (c0 : Nat) (l0 : List ByteArray) (a1 : ByteArray) (r : ByteArray) (w : World) (hr0 : Kd.C Kd.string w A0 l0.length l0) (hc0 : l0.length ≤ c0) (h : strings_Join.f k l0 a1 = some r) :
    Calls Tryz.prog 75 #[.slice A0 l0.length c0, .string a1] w fun e w' => e = .returned (.string r) ∧ Below w.heap.size w w' := by
  unfold strings_Join.f at h
  by_cases hb : (joinB l0 a1).length ≤ 140737488355328 ∧ l0.length ≤ 140737488355328
  · rw [if_pos hb] at h
    obtain rfl := Option.some.inj h
    by_cases hz : 0 < l0.length
    · obtain ⟨b, o, rfl, hlt, hcell⟩ := cells_str hr0 hz
      exact Tryz.strings_Join b o c0 l0 a1 w hcell hlt hb.2 hc0 hb.1
    · obtain rfl : l0 = [] := List.length_eq_zero_iff.1 (by omega)
      exact (Tryz.strings_Join_none A0 c0 a1 w).mono fun e w' ⟨he, hw⟩ => ⟨he, hw ▸ Below.refl _ _⟩
  · rw [if_neg hb] at h
    cases h


/-! ### impl_joined: function 38 -/
def impl_joined.f (k : Nat) (l0 : List ByteArray) : Option (ByteArray) := if (l0.length : Int) = 0 then (some (⟨#[110, 111, 110, 101]⟩ : ByteArray)) else ((strings_Join.f k l0 (⟨#[44]⟩ : ByteArray)).bind fun t143 => (some t143))
theorem impl_joined.mono : ∀ a0 k, LeO (impl_joined.f k a0) (impl_joined.f (k + 1) a0) := by
  intro a0 k
  unfold impl_joined.f
  repeat' first
      | (with_reducible exact strings_Join.mono _ _ _)
      | (with_reducible exact LeO.refl _)
      | (with_reducible exact LeO.none _)
      | (with_reducible refine LeO.ite ?_ ?_)
      | (with_reducible refine LeO.bind ?_ (fun _ => ?_))
      | exact strings_Join.mono _ _ _
      | exact LeO.none _
      | refine LeO.ite ?_ ?_
      | refine LeO.bind ?_ (fun _ => ?_)
set_option maxHeartbeats 8000000 in
set_option maxRecDepth 100000 in
theorem impl_joined.calls (k : Nat) (A0 : Option Addr) (c0 : Nat) (l0 : List ByteArray) (r : ByteArray) (w : World) (hr0 : Kd.C Kd.string w A0 l0.length l0) (hc0 : l0.length ≤ c0) (h : impl_joined.f k l0 = some r) :
    Calls Tryz.prog 49 #[.slice A0 l0.length c0] w fun e w' => e = .returned (.string r) ∧ Below w.heap.size w w' := by
  have HR0 := Aside0.mk hr0
  have HC0 := Aside0.mk hc0
  clear hr0 hc0
  have HB := Aside0.mk (Below.refl w.heap.size w)
  have H : (if (l0.length : Int) = 0 then (some (⟨#[110, 111, 110, 101]⟩ : ByteArray)) else ((strings_Join.f k l0 (⟨#[44]⟩ : ByteArray)).bind fun t143 => (some t143))) = some r := h
  clear h
  by_cases c2 : (l0.length : Int) = 0
  · rw [if_pos c2] at H
    have c2b0 : ((l0.length : Int) == 0) = true := beq_iff_eq.mpr c2
    have c2b1 : ((l0.length : Int) != 0) = false := bne_eq_false_iff_eq.mpr c2
    clear c2
    obtain rfl := Option.some.inj H
    go_enter Tryz.func49, Tryz.ntmps49
    go_wp2
    go_ret
    exact ⟨by first | rfl | (simp [errW_none, errW_some] <;> rfl) | (simp [*, errW_none, errW_some] <;> rfl), by repeat (first | (with_reducible first | exact HB.out | apply below_alloc | apply pw_below_drewN | apply below_drew1) | exact HB.out)⟩
  · rw [if_neg c2] at H
    have c2b0 : ((l0.length : Int) == 0) = false := beq_eq_false_iff_ne.mpr c2
    have c2b1 : ((l0.length : Int) != 0) = true := bne_iff_ne.mpr c2
    have c2b2 : ¬ (l0 = []) := fun h_ => c2 (by rw [h_]; rfl)
    replace H := Option.bind_eq_some_iff.mp H
    obtain ⟨t143, A30, H⟩ := H
    replace H : (some t143) = some r := H
    have A3 := Aside0.mk A30
    clear A30
    obtain rfl := Option.some.inj H
    go_enter Tryz.func49, Tryz.ntmps49
    go_wp2_with (first | ((with_reducible refine gate_callee (f := 75) rfl ?_); refine goesL_ (some 7) rfl rfl Tryz.func75 (by kernel_rfl) rfl #[.slice A0 l0.length c0, .string (⟨#[44]⟩ : ByteArray)] rfl (by (try simp only [List.map_toArray, List.map_cons, List.map_nil]); first | done | rfl | (simp only [List.length_drop, List.length_take]; rfl)) ?_; (with_reducible refine (strings_Join.calls k _ _ l0 (⟨#[44]⟩ : ByteArray) t143 _ ?side1 ?side2 A3.out).mono ?_); (case side1 => repeat (first | exact HR0.out | (with_reducible refine Kd.C_alloc ?_ _) | (with_reducible refine Kd.C_drewN ?_ _) | (with_reducible refine Kd.C_drew ?_))); (case side2 => exact HC0.out); rintro e w4 ⟨rfl, hb⟩; refine ⟨_, rfl, ?_⟩; have n0_ := Aside0.mk (below_step (by repeat (first | (with_reducible first | exact HB.out | apply below_alloc | apply pw_below_drewN | apply below_drew1) | exact HB.out)) hb); clear HB; have HB := n0_; clear n0_; (try clear hb); (try clear hb2); (try clear hk); (try clear hi)))
    go_ret
    exact ⟨by first | rfl | (simp [errW_none, errW_some] <;> rfl) | (simp [*, errW_none, errW_some] <;> rfl), by repeat (first | (with_reducible first | exact HB.out | apply below_alloc | apply pw_below_drewN | apply below_drew1) | exact HB.out)⟩

/-! ### impl_NumbersText: function 12 -/
def impl_NumbersText.l0 : Nat → List ByteArray → List Int → Int → Int → Option (ByteArray × Bool)
  | 0, _, _, _, _ => none
  | k + 1, x4, x11, x12, x13 => if x13 < x12 then (if 0 ≤ x13 then (if x13 < (x11.length : Int) then ((impl_hexOf.f k (rd x11 x13)).bind fun t148 => (if x4.length < 8796093022208 then (impl_NumbersText.l0 k (x4 ++ [t148]) x11 x12 (wrap64 (x13 + 1))) else (none))) else (none)) else (none)) else ((impl_joined.f k x4).bind fun t152 => (some (t152, true)))
def impl_NumbersText.f (k : Nat) (l0 : List Int) : Option (ByteArray × Bool) := if (l0.length : Int) > 256 then (some ((⟨#[]⟩ : ByteArray), false)) else (impl_NumbersText.l0 k (([] : List ByteArray)) l0 (l0.length : Int) 0)
theorem impl_NumbersText.mono_l : ∀ k, (∀ y0 y1 y2 y3, LeO (impl_NumbersText.l0 k y0 y1 y2 y3) (impl_NumbersText.l0 (k + 1) y0 y1 y2 y3))
  | 0 => fun _ _ _ _ r h => by simp [impl_NumbersText.l0] at h
  | k + 1 => by
    have ih0 := impl_NumbersText.mono_l k
    · intro y0 y1 y2 y3
      unfold impl_NumbersText.l0
      repeat' first
      | (with_reducible exact ih0 _ _ _ _)
      | (with_reducible exact impl_hexOf.mono _ _)
      | (with_reducible exact impl_joined.mono _ _)
      | (with_reducible exact LeO.refl _)
      | (with_reducible exact LeO.none _)
      | (with_reducible refine LeO.ite ?_ ?_)
      | (with_reducible refine LeO.bind ?_ (fun _ => ?_))
      | exact ih0 _ _ _ _
      | exact impl_hexOf.mono _ _
      | exact impl_joined.mono _ _
      | exact LeO.none _
      | refine LeO.ite ?_ ?_
      | refine LeO.bind ?_ (fun _ => ?_)
theorem impl_NumbersText.mono : ∀ a0 k, LeO (impl_NumbersText.f k a0) (impl_NumbersText.f (k + 1) a0) := by
  intro a0 k
  have ih0 := impl_NumbersText.mono_l k
  unfold impl_NumbersText.f
  repeat' first
      | (with_reducible exact ih0 _ _ _ _)
      | (with_reducible exact impl_hexOf.mono _ _)
      | (with_reducible exact impl_joined.mono _ _)
      | (with_reducible exact LeO.refl _)
      | (with_reducible exact LeO.none _)
      | (with_reducible refine LeO.ite ?_ ?_)
      | (with_reducible refine LeO.bind ?_ (fun _ => ?_))
      | exact ih0 _ _ _ _
      | exact impl_hexOf.mono _ _
      | exact impl_joined.mono _ _
      | exact LeO.none _
      | refine LeO.ite ?_ ?_
      | refine LeO.bind ?_ (fun _ => ?_)
set_option maxHeartbeats 8000000 in
set_option maxRecDepth 100000 in
theorem impl_NumbersText.calls (k : Nat) (A0 : Option Addr) (c0 : Nat) (l0 : List Int) (r1 : ByteArray) (r2 : Bool) (w : World) (hr0 : Kd.C FKI w A0 l0.length l0) (hc0 : l0.length ≤ c0) (h : impl_NumbersText.f k l0 = some (r1, r2)) (HT : Aside0 (TH w)) :
    Calls Tryz.prog 13 #[.slice A0 l0.length c0] w fun e w' => e = .returned (.tuple #[.string r1, .bool r2]) ∧ Below w.heap.size w w' := by
  have HR0 := Aside0.mk hr0
  have HC0 := Aside0.mk hc0
  clear hr0 hc0
  have HB := Aside0.mk (Below.refl w.heap.size w)
  have H : (if (l0.length : Int) > 256 then (some ((⟨#[]⟩ : ByteArray), false)) else (impl_NumbersText.l0 k (([] : List ByteArray)) l0 (l0.length : Int) 0)) = some (r1, r2) := h
  clear h
  by_cases c2 : (l0.length : Int) > 256
  · rw [if_pos c2] at H
    have c2b0 : decide (256 < (l0.length : Int)) = true := decide_eq_true c2
    have c2b1 : decide (256 < l0.length) = true := decide_eq_true (by omega)
    clear c2
    simp only [Option.some.injEq, Prod.mk.injEq] at H
    obtain ⟨rfl, rfl⟩ := H
    go_enter Tryz.func13, Tryz.ntmps13
    go_wp2
    go_ret2
    exact ⟨by first | rfl | (simp [errW_none, errW_some] <;> rfl) | (simp [*, errW_none, errW_some] <;> rfl), by repeat (first | (with_reducible first | exact HB.out | apply below_alloc | apply pw_below_drewN | apply below_drew1) | exact HB.out)⟩
  · rw [if_neg c2] at H
    have c2b0 : decide (256 < (l0.length : Int)) = false := decide_eq_false c2
    have c2b1 : decide (256 < l0.length) = false := decide_eq_false (by omega)
    clear c2
    obtain ⟨y144, hy144⟩ : ∃ y_ : List ByteArray, y_ = (([] : List ByteArray)) := ⟨_, rfl⟩
    replace H : (impl_NumbersText.l0 k y144 l0 (l0.length : Int) 0) = some (r1, r2) := by first | (rw [hy144]; with_reducible exact H) | (have H2_ := (Option.bind_some _ _).symm.trans H; rw [hy144]; with_reducible exact H2_) | (have H2_ := (Option.bind_some _ _).symm.trans H; with_reducible exact H2_) | with_reducible exact H | (rw [hy144]; exact H) | exact H
    have Ny144 := Aside0.mk hy144
    clear hy144
    have H' := Aside0.mk H
    clear H
    go_enter Tryz.func13, Tryz.ntmps13
    go_wp2_with (first | ((with_reducible refine gate_dst (N := 10) rfl ?_); refine Kd.R_lit Kd.string _ 9 ?hg (N := 10) ?hd (xs := ([] : List ByteArray)) (inner := []) (ok := fun _ => True) (okp := fun _ => True) ?hr ?hp (fun _ hk => hk) trivial (Below.refl _ _) (Nat.le_refl _) (by simp) ?_; (case hd => rfl); (case hg => rfl); (case hr => first | (go_simp; done) | (go_simp; rfl)); (case hp => exact (Reps.none _ _)); intro v145 w3 ho4 hb hg_ hnew_; clear hg_ hnew_; (first | rw [← Ny144.out] at ho4 | (simp only [Int.reduceToNat] at ho4; rw [← Ny144.out] at ho4)); have n0_ := Aside0.mk (Kd.R_lower ho4 (below_size (by repeat (first | (with_reducible first | exact HB.out | apply below_alloc | apply pw_below_drewN | apply below_drew1) | exact HB.out)))); have n1_ := Aside0.mk (below_step (by repeat (first | (with_reducible first | exact HB.out | apply below_alloc | apply pw_below_drewN | apply below_drew1) | exact HB.out)) hb); clear HB; have HO146 := n0_; have HB := n1_; clear n0_ n1_; clear hb ho4))
    go_loopg [4, 13] k (fun kq v4 v13 w' => ∃ (x4_1 : List ByteArray) (x13_1 : Int), v13 = .int .i64 x13_1 ∧ Aside0 (impl_NumbersText.l0 kq x4_1 l0 (l0.length : Int) x13_1 = some (r1, r2)) ∧ Aside0 (kq ≤ k) ∧ Aside0 (Kd.R Kd.string 9 w' w.heap.size (fun _ => True) v4 x4_1) ∧ Aside0 (Below w.heap.size w w'))
    case atStart => exact ⟨(y144), (0), (by first | rfl | (simp; done) | (simp [*]; done)), H', ⟨Nat.le_refl _⟩, ⟨by (with_reducible repeat (first | apply Kd.R_alloc | apply Kd.R_drewN | apply Kd.R_drew)); exact HO146.out⟩, ⟨by repeat (first | (with_reducible first | exact HB.out | apply below_alloc | apply pw_below_drewN | apply below_drew1) | exact HB.out)⟩⟩
    case round =>
      clear H'
      try clear c1
      try clear c2
      try clear c2b0
      try clear c2b1
      try clear p2
      obtain ⟨x4_1, x13_1, rfl, HA, HK1, HO_4, HB⟩ := hrel
      cases gk with
      | zero => exact absurd HA.out (by simp [impl_NumbersText.l0])
      | succ k1 =>
        have H := HA.out
        clear HA
        simp only [impl_NumbersText.l0] at H
        by_cases c5 : x13_1 < (l0.length : Int)
        · rw [if_pos c5] at H
          have c5b0 : decide (x13_1 < (l0.length : Int)) = true := decide_eq_true c5
          clear c5
          by_cases c6 : 0 ≤ x13_1
          · rw [if_pos c6] at H
            have c6b0 : decide (0 ≤ x13_1) = true := decide_eq_true c6
            clear c6
            by_cases c7 : x13_1 < (l0.length : Int)
            · rw [if_pos c7] at H
              have c7b0 : decide (x13_1 < (l0.length : Int)) = true := decide_eq_true c7
              clear c7
              replace H := Option.bind_eq_some_iff.mp H
              obtain ⟨t148, A80, H⟩ := H
              replace H : (if x4_1.length < 8796093022208 then (impl_NumbersText.l0 k1 (x4_1 ++ [t148]) l0 (l0.length : Int) (wrap64 (x13_1 + 1))) else (none)) = some (r1, r2) := H
              have A8 := Aside0.mk A80
              clear A80
              by_cases c9 : x4_1.length < 8796093022208
              · rw [if_pos c9] at H
                have LMc9 := Aside0.mk c9
                clear c9
                obtain ⟨y149, hy149⟩ : ∃ y_ : List ByteArray, y_ = (x4_1 ++ [t148]) := ⟨_, rfl⟩
                replace H : (impl_NumbersText.l0 k1 y149 l0 (l0.length : Int) (wrap64 (x13_1 + 1))) = some (r1, r2) := by first | (rw [hy149]; with_reducible exact H) | (have H2_ := (Option.bind_some _ _).symm.trans H; rw [hy149]; with_reducible exact H2_) | (have H2_ := (Option.bind_some _ _).symm.trans H; with_reducible exact H2_) | with_reducible exact H | (rw [hy149]; exact H) | exact H
                have Ny149 := Aside0.mk hy149
                clear hy149
                have H' := Aside0.mk H
                clear H
                have p147 : 0 ≤ (x13_1 : Int) := of_decide_eq_true (by first | (with_reducible assumption) | assumption)
                have q147 : x13_1 < (l0.length : Int) := of_decide_eq_true (by first | (with_reducible assumption) | assumption)
                obtain ⟨ad147, e147, hx147_0⟩ := at_fki HR0.out x13_1 p147 q147
                cases e147
                replace hx147_0 := (HB.out.cell (World.block_lt_of_cell? w _ hx147_0)).trans hx147_0
                replace p147 := eq_true p147
                replace q147 := eq_true q147
                go_wp2_with (first | ((with_reducible refine gate_callee (f := 48) rfl ?_); refine goesL_ (some 19) rfl rfl Tryz.func48 (by kernel_rfl) rfl #[FV (rd l0 x13_1)] rfl (by (try simp only [List.map_toArray, List.map_cons, List.map_nil]); first | done | rfl | (simp only [List.length_drop, List.length_take]; rfl)) ?_; (with_reducible refine (impl_hexOf.calls k1 (rd l0 x13_1) t148 _ A8.out ⟨TH.on HT.out (by repeat (first | (with_reducible first | exact HB.out | apply below_alloc | apply pw_below_drewN | apply below_drew1) | exact HB.out))⟩).mono ?_); rintro e w10 ⟨rfl, hb⟩; refine ⟨_, rfl, ?_⟩; have n0_ := Aside0.mk (Kd.R_below (by (with_reducible repeat (first | apply Kd.R_alloc | apply Kd.R_drewN | apply Kd.R_drew)); exact HO_4.out) hb); have n1_ := Aside0.mk (below_step (by repeat (first | (with_reducible first | exact HB.out | apply below_alloc | apply pw_below_drewN | apply below_drew1) | exact HB.out)) hb); clear HO_4; clear HB; have HO_4 := n0_; have HB := n1_; clear n0_ n1_; (try clear hb); (try clear hb2); (try clear hk); (try clear hi)) | ((with_reducible refine gate_builtin (b := .append) (xs := #[.tmp 17, .tmp 20]) rfl ?_); at_builtin; refine Kd.R_append Kd.string (w0 := w) w.heap.size rfl (.tmp 17) (.tmp 20) 72 9 (.string ⟨#[]⟩) 16 rfl Tryz.underlying72 info9 rfl (by decide) (by omega) u4 x4_1 t148 [.string t148] (fun _ => True) (fun _ => False) rfl rfl ?aP (fun _ hk => hk.elim) ?aF ?aO ?aB ?aS ?aL ?_; (case aP => exact rfl); (case aB => exact (by repeat (first | (with_reducible first | exact HB.out | apply below_alloc | apply pw_below_drewN | apply below_drew1) | exact HB.out))); (case aF => exact (fun _ _ => trivial)); (case aO => exact (by (with_reducible repeat (first | apply Kd.R_alloc | apply Kd.R_drewN | apply Kd.R_drew)); exact HO_4.out)); (case aS => exact (below_size (by repeat (first | (with_reducible first | exact HB.out | apply below_alloc | apply pw_below_drewN | apply below_drew1) | exact HB.out)))); (case aL => have := LMc9.out; omega); intro v150 w11 ho hb hg hat; rw [← Ny149.out] at ho; have n0_ := Aside0.mk (hb); have n1_ := Aside0.mk (ho); clear HB; clear HO_4; have HB := n0_; have HO151 := n1_; clear n0_ n1_; clear ho hb hg hat))
                go_roundg k1
                case measure => have := HK1.out; omega
                case rel => exact ⟨(y149), (wrap64 (x13_1 + 1)), (by first | rfl | (simp; done) | (simp [*]; done)), H', ⟨by have := HK1.out; omega⟩, ⟨by (with_reducible repeat (first | apply Kd.R_alloc | apply Kd.R_drewN | apply Kd.R_drew)); exact HO151.out⟩, ⟨by repeat (first | (with_reducible first | exact HB.out | apply below_alloc | apply pw_below_drewN | apply below_drew1) | exact HB.out)⟩⟩
              · rw [if_neg c9] at H
                exact absurd H (by simp)
            · rw [if_neg c7] at H
              exact absurd H (by simp)
          · rw [if_neg c6] at H
            exact absurd H (by simp)
        · rw [if_neg c5] at H
          have c5b0 : decide (x13_1 < (l0.length : Int)) = false := decide_eq_false c5
          clear c5
          replace H := Option.bind_eq_some_iff.mp H
          obtain ⟨t152, A120, H⟩ := H
          replace H : (some (t152, true)) = some (r1, r2) := H
          have A12 := Aside0.mk A120
          clear A120
          simp only [Option.some.injEq, Prod.mk.injEq] at H
          obtain ⟨rfl, rfl⟩ := H
          obtain ⟨Ao13, co13, eo13⟩ := Kd.R_slice HO_4.out
          subst eo13
          go_wp2_with (first | ((with_reducible refine gate_callee (f := 49) rfl ?_); refine goesL_ (some 24) rfl rfl Tryz.func49 (by kernel_rfl) rfl #[.slice Ao13 x4_1.length co13] rfl (by (try simp only [List.map_toArray, List.map_cons, List.map_nil]); first | done | rfl | (simp only [List.length_drop, List.length_take]; rfl)) ?_; (with_reducible refine (impl_joined.calls k1 _ _ x4_1 t152 _ ?side1 ?side2 A12.out).mono ?_); (case side1 => repeat (first | exact (Kd.R_reads' HO_4.out).2.2 | (with_reducible refine Kd.C_alloc ?_ _) | (with_reducible refine Kd.C_drewN ?_ _) | (with_reducible refine Kd.C_drew ?_))); (case side2 => exact (Kd.R_reads' HO_4.out).2.1); rintro e w14 ⟨rfl, hb⟩; refine ⟨_, rfl, ?_⟩; have n0_ := Aside0.mk (Kd.R_below (by (with_reducible repeat (first | apply Kd.R_alloc | apply Kd.R_drewN | apply Kd.R_drew)); exact HO_4.out) hb); have n1_ := Aside0.mk (below_step (by repeat (first | (with_reducible first | exact HB.out | apply below_alloc | apply pw_below_drewN | apply below_drew1) | exact HB.out)) hb); clear HO_4; clear HB; have HO_4 := n0_; have HB := n1_; clear n0_ n1_; (try clear hb); (try clear hb2); (try clear hk); (try clear hi)))
          go_ret2
          exact ⟨by first | rfl | (simp [errW_none, errW_some] <;> rfl) | (simp [*, errW_none, errW_some] <;> rfl), by repeat (first | (with_reducible first | exact HB.out | apply below_alloc | apply pw_below_drewN | apply below_drew1) | exact HB.out)⟩

/-! ### laws_eqFloat32S: of a list and itself -/
theorem C_nat {w : World} {A : Option Addr} {n : Nat} {xs : List Int} (h : FKI.C w A n xs) : FK.C w A n (xs.map Int.toNat) := by
  obtain ⟨h1, h2, h3⟩ := h
  refine ⟨by rw [List.length_map]; exact h1, h2, fun hn => ?_⟩
  obtain ⟨ad, e, hc⟩ := h3 hn
  refine ⟨ad, e, fun j p hj => ?_⟩
  obtain ⟨q, hq, rfl⟩ := by simpa using hj
  exact hc j q hq
def laws_eqFloat32S.f (l0 : List Int) (l1 : List Int) : Option (Bool) := if l0 = l1 then some true else none
/-! ### laws_FnExactNumbersText: function 3 -/
def laws_FnExactNumbersText.j0 : Nat → List Int → List Int → Bool → Option (Bool)
  | 0, _, _, _ => none
  | k + 1, x0, x5, x31 => if x31 = true then (some false) else ((laws_toFloat32S.f k x0).bind fun t163 => ((laws_eqFloat32S.f x5 t163).bind fun t166 => (if t166 = true then (some true) else (some false))))
def laws_FnExactNumbersText.f (k : Nat) (l0 : List Int) : Option (Bool) := if (l0.length : Int) > 1048576 then (some true) else ((laws_toFloat32S.f k l0).bind fun t153 => ((spec_NumbersText.f k t153).bind fun bt156 => ((laws_toFloat32S.f k l0).bind fun t158 => ((impl_NumbersText.f k t158).bind fun bt161 => (if bt161.1.toList = bt156.1.toList then (laws_FnExactNumbersText.j0 k l0 t158 (bt161.2 != bt156.2)) else (laws_FnExactNumbersText.j0 k l0 t158 true))))))
theorem laws_FnExactNumbersText.mono_l : ∀ k, (∀ y0 y1 y2, LeO (laws_FnExactNumbersText.j0 k y0 y1 y2) (laws_FnExactNumbersText.j0 (k + 1) y0 y1 y2))
  | 0 => fun _ _ _ r h => by simp [laws_FnExactNumbersText.j0] at h
  | k + 1 => by
    have ih0 := laws_FnExactNumbersText.mono_l k
    · intro y0 y1 y2
      unfold laws_FnExactNumbersText.j0
      repeat' first
      | (with_reducible exact ih0 _ _ _)
      | (with_reducible exact impl_NumbersText.mono _ _)
      | (with_reducible exact laws_toFloat32S.mono _ _)
      | (with_reducible exact spec_NumbersText.mono _ _)
      | (with_reducible exact LeO.refl _)
      | (with_reducible exact LeO.none _)
      | (with_reducible refine LeO.ite ?_ ?_)
      | (with_reducible refine LeO.bind ?_ (fun _ => ?_))
      | exact ih0 _ _ _
      | exact impl_NumbersText.mono _ _
      | exact laws_toFloat32S.mono _ _
      | exact spec_NumbersText.mono _ _
      | exact LeO.none _
      | refine LeO.ite ?_ ?_
      | refine LeO.bind ?_ (fun _ => ?_)
theorem laws_FnExactNumbersText.mono : ∀ a0 k, LeO (laws_FnExactNumbersText.f k a0) (laws_FnExactNumbersText.f (k + 1) a0) := by
  intro a0 k
  have ih0 := laws_FnExactNumbersText.mono_l k
  unfold laws_FnExactNumbersText.f
  repeat' first
      | (with_reducible exact ih0 _ _ _)
      | (with_reducible exact impl_NumbersText.mono _ _)
      | (with_reducible exact laws_toFloat32S.mono _ _)
      | (with_reducible exact spec_NumbersText.mono _ _)
      | (with_reducible exact LeO.refl _)
      | (with_reducible exact LeO.none _)
      | (with_reducible refine LeO.ite ?_ ?_)
      | (with_reducible refine LeO.bind ?_ (fun _ => ?_))
      | exact ih0 _ _ _
      | exact impl_NumbersText.mono _ _
      | exact laws_toFloat32S.mono _ _
      | exact spec_NumbersText.mono _ _
      | exact LeO.none _
      | refine LeO.ite ?_ ?_
      | refine LeO.bind ?_ (fun _ => ?_)
end Go.Proofs.YtempeenjpaldaaaGreatDoor.SNum
