/- The program's text of a number, hexOf, for all numbers. -/
import Derived.Test.YtempeenjpaldaaaGreatDoorHexF
import Derived.Test.YtempeenjpaldaaaGreatDoorFlA
namespace Go.Proofs.YtempeenjpaldaaaGreatDoor.Hx
open Go.RowKit Go.Lib Go.Proofs.YtempeenjpaldaaaGreatDoorW.PrintWords Fl
theorem T_len : ∀ (k u : Nat), u < 16 ^ (k + 1) → 1 ≤ (T u).length ∧ (T u).length ≤ k + 1
  | 0, u, h => by rw [T_small (by simpa using h)]; exact ⟨Nat.le_refl _, Nat.le_refl _⟩
  | k + 1, u, h => by
    by_cases g : u < 16
    · rw [T_small g]; exact ⟨Nat.le_refl _, by simp⟩
    · have := T_len k (u / 16) (by rw [Nat.pow_succ] at h; exact Nat.div_lt_of_lt_mul (by omega))
      rw [T_big g, List.length_append, List.length_singleton]
      omega
/-- a number's eight digits at base 16 -/
def hex8 (u : Nat) : List UInt8 := List.replicate (8 - (T u).length) 48 ++ T u
theorem hex8_len {u : Nat} (h : u < 4294967296) : (hex8 u).length = 8 := by
  have := T_len 7 u (by simpa using h)
  rw [hex8, List.length_append, List.length_replicate]; omega
theorem join_bytes (a b : List UInt8) : (⟨a.toArray⟩ ++ ⟨b.toArray⟩ : ByteArray) = ⟨(a ++ b).toArray⟩ := by
  apply ByteArray.ext
  rw [ByteArray.data_append]
  simp
theorem repeatL_zeros : ∀ c : Nat, Lib.repeatL [48] c = List.replicate c (48 : UInt8)
  | 0 => rfl
  | c + 1 => by rw [List.replicate_succ, ← repeatL_zeros c]; rfl
theorem Repeat_any (c : Nat) (hc : c ≤ 8) (w : World) : Calls Tryz.prog 74 #[.string ⟨#[48]⟩, .int .i64 c] w fun e w' => e = .returned (.string ⟨(List.replicate c (48 : UInt8)).toArray⟩) ∧ Below w.heap.size w w' := by
  rcases c with _ | _ | c
  · refine (Tryz.strings_Repeat_zero ⟨#[48]⟩ w).mono ?_
    rintro e w' ⟨rfl, rfl⟩
    exact ⟨rfl, Below.refl _ _⟩
  · refine (Tryz.strings_Repeat_one ⟨#[48]⟩ w).mono ?_
    rintro e w' ⟨rfl, rfl⟩
    exact ⟨rfl, Below.refl _ _⟩
  · have hsz : (⟨#[48]⟩ : ByteArray).size = 1 := rfl
    refine (Tryz.strings_Repeat_main ⟨#[48]⟩ (c + 2) w (by omega) (by omega) (by rw [hsz]; omega) (by rw [hsz]; omega)).mono ?_
    rintro e w' ⟨rfl, hb⟩
    rw [show (⟨#[48]⟩ : ByteArray).data.toList = [48] from rfl, repeatL_zeros]
    exact ⟨rfl, hb⟩
set_option maxHeartbeats 2000000 in
set_option maxRecDepth 100000 in
theorem hexOf_any (x : Nat) (hx : x < 4294967296) (w : World) (hT : TB w) :
    Calls Tryz.prog 48 #[.float .f32 x] w fun e w' => e = .returned (.string ⟨(hex8 (bitsN x).toNat).toArray⟩) ∧ Below w.heap.size w w' := by
  have HT := Aside0.mk hT
  clear hT
  have hr := bitsN_range hx
  obtain ⟨u, hu⟩ : ∃ u : Nat, bitsN x = u := ⟨(bitsN x).toNat, by omega⟩
  have hu32 : u < 4294967296 := by omega
  have HL := T_len 7 u (by simpa using hu32)
  rw [hu, Int.toNat_natCast]
  obtain ⟨n, hn⟩ : ∃ n, (T u).length = n := ⟨_, rfl⟩
  rw [hn] at HL
  have hsz : (⟨(T u).toArray⟩ : ByteArray).size = n := by rw [← hn]; simp [ByteArray.size]
  have H8 : hex8 u = List.replicate (8 - n) 48 ++ T u := by rw [hex8, hn]
  have HH := Aside0.mk H8
  have HBit := Aside0.mk (BitsOf_any x hx)
  obtain ⟨tx, htx⟩ : ∃ t : ByteArray, (⟨(T u).toArray⟩ : ByteArray) = t := ⟨_, rfl⟩
  have HX := Aside0.mk htx
  rw [htx] at hsz
  clear H8 hn htx
  go_enter Tryz.func48, Tryz.ntmps48
  go_wp2_with fail
  refine (HBit.out _).mono ?_
  rintro e w' ⟨rfl, rfl⟩
  rw [hu]
  go_wp2_with fail
  refine (FormatInt16 u hu32 _ HT.out).mono ?_
  rintro e w1 ⟨rfl, b1⟩
  have B1 := Aside0.mk b1
  clear b1
  rw [HX.out]
  have hs8 : (8 : Int) - (n : Int) = ((8 - n : Nat) : Int) := by omega
  go_wp2_with fail
  refine (Repeat_any (8 - n) (by omega) _).mono ?_
  rintro e w2 ⟨rfl, b2⟩
  have B2 := Aside0.mk b2
  clear b2
  go_wp2
  go_ret
  exact ⟨by rw [HH.out, ← join_bytes, ← HX.out]; rfl, below_step B1.out B2.out⟩
end Go.Proofs.YtempeenjpaldaaaGreatDoor.Hx
