/- The library's reading of eight digits at base 16, and the program's readHex. -/
import Derived.Test.YtempeenjpaldaaaGreatDoorHexF
import Derived.Test.YtempeenjpaldaaaGreatDoorShelf
import Derived.Test.YtempeenjpaldaaaGreatDoorFlA
import Derived.Shelf.Strconv.ToError
import Derived.Shelf.Strconv.Lower
import Derived.Lib.Strings
import Derived.Lib.ConvBytes
import Derived.Lib.AtoiErrMem
import Derived.Laws.Strings3
import Derived.Laws.Closers25
import Derived.Laws.Closers25b
import Derived.BigCall
import Derived.BigGuard
import Derived.Lib.ParseIntBMem
namespace Go.Proofs.YtempeenjpaldaaaGreatDoor.Hx
open Go.RowKit Go.Lib Go.Proofs.YtempeenjpaldaaaGreatDoorW.PrintWords Fl
/-- what the library does to a letter -/
def low (c : Nat) : Int := bits .or .u8 (c : Int) 32
/-- a digit's number -/
def hv (c : Nat) : Option Nat := if 48 ≤ c ∧ c ≤ 57 then some (c - 48) else if 97 ≤ low c ∧ low c ≤ 102 then some ((low c).toNat - 87) else none
/-- digits' number behind acc -/
def parseH : Nat → List UInt8 → Option Nat
  | acc, [] => some acc
  | acc, c :: cs => (hv c.toNat).bind fun d => parseH (acc * 16 + d) cs
def uV : Option Nat → Value
  | some n => .tuple #[.int .u64 n, .nilIface]
  | none => .tuple #[.int .u64 0, .iface 129 (.int .i64 2)]
theorem lower_any (c : Int) (w : World) : Calls Tryz.prog 106 #[.int .u8 c] w fun e w' => e = .returned (.int .u8 (bits .or .u8 c 32)) ∧ w' = w := by
  go_enter Tryz.func106, Tryz.ntmps106
  go_wp2
  go_ret
  exact ⟨rfl, rfl⟩
theorem lower_is {c l : Int} (h : Aside0 (bits .or .u8 c 32 = l)) (w : World) : Calls Tryz.prog 106 #[.int .u8 c] w fun e w' => e = .returned (.int .u8 l) ∧ w = w' := by
  refine (lower_any c w).mono ?_
  rintro e w' ⟨rfl, rfl⟩
  exact ⟨by rw [h.out], rfl⟩
theorem pow_le {k : Nat} (h : k ≤ 8) : 16 ^ k ≤ 4294967296 := by
  have := Nat.pow_le_pow_right (n := 16) (by decide) h
  simpa using this
set_option maxHeartbeats 8000000 in
set_option maxRecDepth 100000 in
theorem parse_any (t : ByteArray) (h8 : t.size = 8) (w : World) :
    Calls Tryz.prog 92 #[.string t, .int .i64 16, .int .i64 32] w fun e w' => e = .returned (uV (parseH 0 t.data.toList)) ∧ w' = Lib.bytesWorld w 5 t := by
  have hemp : t.toList.isEmpty = false := by
    rw [← decide_eq_emptyBytes]
    exact decide_eq_false (fun h => by rw [h] at h8; cases h8)
  have hcv := Lib.run_convert_string_bytes (P := Tryz.prog) w 9 22 5 t (u := .string) Tryz.underlying9 Tryz.underlying22 Tryz.underlying5
  have hB : ∀ j, j < t.size → (Lib.bytesWorld w 5 t).cell? ⟨w.heap.size, j, none⟩ = some (.int .u8 (t.data.toList.getD j 0).toNat) := fun j hj => Lib.bytesWorld_cell w 5 t j hj
  obtain ⟨W1, hW1⟩ : ∃ W1, W1 = Lib.bytesWorld w 5 t := ⟨_, rfl⟩
  rw [← hW1] at hcv hB ⊢
  clear hW1
  obtain ⟨bs, hL⟩ : ∃ bs, bs = t.data.toList := ⟨_, rfl⟩
  have hLn : bs.length = t.size := by rw [hL, Lib.size_eq]
  rw [← hL] at hB ⊢
  clear hL
  have hmv : IntKind.u64.wrap (IntKind.u64.wrap 4294967296 - 1) = 4294967295 := by
    rw [IntKind.wrap_u64, IntKind.wrap_u64]
    decide
  go_enter Tryz.func92, Tryz.ntmps92
  go_wp2
  go_loop [12, 13, 101] (fun vu vn vi => ∃ (k acc : Nat) (a : Int), vu = .bool false ∧ vn = .int .u64 a ∧ vi = .int .i64 k ∧ k ≤ t.size ∧ Hid (a = (acc : Int) ∧ acc < 16 ^ k ∧ parseH 0 bs = parseH acc (bs.drop k)))
    (fun _ _ vi => t.size - (RowKit.intOf vi).toNat)
  case atStart => exact ⟨0, 0, 0, rfl, rfl, rfl, by omega, rfl, by decide, rfl⟩
  case round =>
    obtain ⟨k, acc, a, rfl, rfl, rfl, hk, hh⟩ := hrel
    obtain ⟨ha, hacc, hdec⟩ := hh.out
    clear hh
    have a0 : 0 ≤ a := by omega
    by_cases hkn : k < t.size
    · have hc := hB k hkn
      have hdrop : bs.drop k = bs[k]'(by omega) :: bs.drop (k + 1) := List.drop_eq_getElem_cons (by omega)
      have hget : bs.getD k 0 = bs[k]'(by omega) := by simp [List.getD, List.getElem?_eq_getElem (show k < bs.length by omega)]
      rw [hdrop] at hdec
      rw [hget] at hc
      generalize bs[k]'(by omega) = c at hc hdec
      have hc256 : c.toNat < 256 := c.toNat_lt
      clear hB hdrop hget
      have hp := pow_le (k := k + 1) (by omega)
      rw [Nat.pow_succ] at hp
      have hacc28 : acc * 16 + 15 ≤ 4294967295 := by omega
      have hcut : ¬ 1152921504606846976 ≤ a := by omega
      have hv0 := bits_lo_u8 .or (c.toNat : Int) 32
      have hv1 := bits_hi_u8 .or (c.toNat : Int) 32
      by_cases hdig : 48 ≤ c.toNat ∧ c.toNat ≤ 57
      · have hF : parseH acc (c :: bs.drop (k + 1)) = parseH (acc * 16 + (c.toNat - 48)) (bs.drop (k + 1)) := by simp [parseH, hv, hdig]
        obtain ⟨hd0, hd1⟩ := hdig
        have HN : Hid (a * 16 + ((c.toNat : Int) - 48) = ((acc * 16 + (c.toNat - 48) : Nat) : Int) ∧ acc * 16 + (c.toNat - 48) < 16 ^ (k + 1) ∧ parseH 0 bs = parseH (acc * 16 + (c.toNat - 48)) (bs.drop (k + 1))) := Lib.hid ⟨by omega, by rw [Nat.pow_succ]; omega, hdec.trans hF⟩
        have iov : a * 16 + ((c.toNat : Int) - 48) ≤ 4294967295 := by omega
        have hsm : ¬ 16 ≤ (c.toNat : Int) - 48 := by omega
        clear hacc hF hdec ha hp hacc28
        go_wp2
        refine ⟨⟨k + 1, acc * 16 + (c.toNat - 48), a * 16 + ((c.toNat : Int) - 48), rfl, (by first | rfl | (congr 1; omega)), (by first | rfl | (congr 1; omega)), by omega, HN⟩, by simp [RowKit.intOf]; omega⟩
      · obtain ⟨l, hl⟩ : ∃ l, bits .or .u8 (c.toNat : Int) 32 = l := ⟨_, rfl⟩
        have hlow : low c.toNat = l := hl
        rw [hl] at hv0 hv1
        have hd' : (c.toNat : Int) < 48 ∨ 57 < (c.toNat : Int) := by omega
        have hbr : Tryz.prog.underlying 5 = some (.int .u8) := Tryz.underlying5
        clear hbr
        by_cases hlt : 97 ≤ l ∧ l ≤ 102
        · obtain ⟨d, hd⟩ : ∃ d : Nat, l.toNat - 87 = d := ⟨_, rfl⟩
          have hld : l = (d : Int) + 87 := by omega
          have hF : parseH acc (c :: bs.drop (k + 1)) = parseH (acc * 16 + d) (bs.drop (k + 1)) := by simp only [parseH, hv, if_neg hdig, hlow, if_pos hlt, Option.bind_some, hd]
          have hd0 : 10 ≤ d := by omega
          have hd1 : d ≤ 15 := by omega
          have HN : Hid (a * 16 + (d : Int) = ((acc * 16 + d : Nat) : Int) ∧ acc * 16 + d < 16 ^ (k + 1) ∧ parseH 0 bs = parseH (acc * 16 + d) (bs.drop (k + 1))) := Lib.hid ⟨by omega, by rw [Nat.pow_succ]; omega, hdec.trans hF⟩
          have iov : a * 16 + (d : Int) ≤ 4294967295 := by omega
          have HL := Aside0.mk hl
          have hl0 : 97 ≤ l := hlt.1
          have hl1 : l ≤ 102 := hlt.2
          have h95 : ¬ (c.toNat : Int) = 95 := fun h => by
            rw [h, show bits .or .u8 95 32 = 127 by decide +kernel] at hl
            omega
          have hsm : ¬ 16 ≤ l - 97 + 10 := by omega
          have iov2 : a * 16 + (l - 97 + 10) ≤ 4294967295 := by omega
          rw [show a * 16 + (d : Int) = a * 16 + (l - 97 + 10) by omega] at HN
          clear hacc hF hdec ha hp hacc28 hlow hlt hdig hd hl hld hd0 hd1 iov
          rcases hd' with hd' | hd'
          · go_wp2_with fail
            refine (lower_is HL _).mono ?_
            rintro e w' ⟨rfl, rfl⟩
            go_wp2_with fail
            refine (lower_is HL _).mono ?_
            rintro e w' ⟨rfl, rfl⟩
            go_wp2_with fail
            refine (lower_is HL _).mono ?_
            rintro e w' ⟨rfl, rfl⟩
            go_wp2
            refine ⟨⟨k + 1, acc * 16 + d, a * 16 + (l - 97 + 10), rfl, (by first | rfl | (congr 1; omega)), (by first | rfl | (congr 1; omega)), by omega, HN⟩, by simp [RowKit.intOf]; omega⟩
          · go_wp2_with fail
            refine (lower_is HL _).mono ?_
            rintro e w' ⟨rfl, rfl⟩
            go_wp2_with fail
            refine (lower_is HL _).mono ?_
            rintro e w' ⟨rfl, rfl⟩
            go_wp2_with fail
            refine (lower_is HL _).mono ?_
            rintro e w' ⟨rfl, rfl⟩
            go_wp2
            refine ⟨⟨k + 1, acc * 16 + d, a * 16 + (l - 97 + 10), rfl, (by first | rfl | (congr 1; omega)), (by first | rfl | (congr 1; omega)), by omega, HN⟩, by simp [RowKit.intOf]; omega⟩
        · have hF : parseH acc (c :: bs.drop (k + 1)) = none := by simp only [parseH, hv, if_neg hdig, hlow, if_neg hlt, Option.bind_none]
          rw [hF] at hdec
          have HDE := Aside0.mk hdec
          have HL := Aside0.mk hl
          by_cases h95 : (c.toNat : Int) = 95
          · rw [h95] at hc
            have HL2 : Aside0 (bits .or .u8 95 32 = 127) := Aside0.mk (by decide +kernel)
            clear hacc hF ha hp hacc28 hlow hlt hdig hl hv0 hv1 hd' hdec HL h95 hc256
            go_wp2_with fail
            refine (lower_is HL2 _).mono ?_
            rintro e w' ⟨rfl, rfl⟩
            go_wp2_with fail
            refine (lower_is HL2 _).mono ?_
            rintro e w' ⟨rfl, rfl⟩
            go_wp2
            go_ret2
            first | exact ⟨rfl, rfl⟩ | exact ⟨by rw [HDE.out]; rfl, rfl⟩
          clear hacc hF ha hp hacc28 hlow hdig hl hdec
          by_cases hl0 : 97 ≤ l
          · have hl1 : 102 < l := by omega
            clear hlt
            by_cases hl2 : l ≤ 122
            · have hsm : 16 ≤ l - 97 + 10 := by omega
              rcases hd' with hd' | hd'
              · go_wp2_with fail
                refine (lower_is HL _).mono ?_
                rintro e w' ⟨rfl, rfl⟩
                go_wp2_with fail
                refine (lower_is HL _).mono ?_
                rintro e w' ⟨rfl, rfl⟩
                go_wp2_with fail
                refine (lower_is HL _).mono ?_
                rintro e w' ⟨rfl, rfl⟩
                go_wp2
                go_ret2
                first | exact ⟨rfl, rfl⟩ | exact ⟨by rw [HDE.out]; rfl, rfl⟩
              · go_wp2_with fail
                refine (lower_is HL _).mono ?_
                rintro e w' ⟨rfl, rfl⟩
                go_wp2_with fail
                refine (lower_is HL _).mono ?_
                rintro e w' ⟨rfl, rfl⟩
                go_wp2_with fail
                refine (lower_is HL _).mono ?_
                rintro e w' ⟨rfl, rfl⟩
                go_wp2
                go_ret2
                first | exact ⟨rfl, rfl⟩ | exact ⟨by rw [HDE.out]; rfl, rfl⟩
            · rcases hd' with hd' | hd'
              · go_wp2_with fail
                refine (lower_is HL _).mono ?_
                rintro e w' ⟨rfl, rfl⟩
                go_wp2_with fail
                refine (lower_is HL _).mono ?_
                rintro e w' ⟨rfl, rfl⟩
                go_wp2
                go_ret2
                first | exact ⟨rfl, rfl⟩ | exact ⟨by rw [HDE.out]; rfl, rfl⟩
              · go_wp2_with fail
                refine (lower_is HL _).mono ?_
                rintro e w' ⟨rfl, rfl⟩
                go_wp2_with fail
                refine (lower_is HL _).mono ?_
                rintro e w' ⟨rfl, rfl⟩
                go_wp2
                go_ret2
                first | exact ⟨rfl, rfl⟩ | exact ⟨by rw [HDE.out]; rfl, rfl⟩
          · clear hlt
            rcases hd' with hd' | hd'
            · go_wp2_with fail
              refine (lower_is HL _).mono ?_
              rintro e w' ⟨rfl, rfl⟩
              go_wp2
              go_ret2
              first | exact ⟨rfl, rfl⟩ | exact ⟨by rw [HDE.out]; rfl, rfl⟩
            · go_wp2_with fail
              refine (lower_is HL _).mono ?_
              rintro e w' ⟨rfl, rfl⟩
              go_wp2
              go_ret2
              first | exact ⟨rfl, rfl⟩ | exact ⟨by rw [HDE.out]; rfl, rfl⟩
    · have hkk : k = t.size := by omega
      subst hkk
      have hF : parseH acc (bs.drop t.size) = some acc := by rw [List.drop_eq_nil_of_le (by omega)]; rfl
      rw [hF] at hdec
      subst ha
      clear hacc hF a0
      go_wp2
      go_ret2
      first | exact ⟨rfl, rfl⟩ | exact ⟨by rw [hdec]; rfl, rfl⟩
end Go.Proofs.YtempeenjpaldaaaGreatDoor.Hx
