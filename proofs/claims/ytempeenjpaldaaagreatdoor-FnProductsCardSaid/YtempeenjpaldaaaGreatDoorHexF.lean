/- The library's text of a whole number at base 16, for numbers below 2^32. -/
import Derived.Test.YtempeenjpaldaaaGreatDoorShelf
import Derived.Test.YtempeenjpaldaaaGreatDoorWWords
import Derived.Lib.SmallJoins
namespace Go.Proofs.YtempeenjpaldaaaGreatDoor.Hx
open Go.RowKit Go.Sort Go.Lib Go.Proofs.YtempeenjpaldaaaGreatDoorW.PrintWords
/-- the entry of the laid table that the library reads -/
def TB (w : World) : Prop := w.cell? ⟨6, 15, none⟩ = some (.int .u8 4)
theorem TB.lt {w : World} (h : TB w) : 6 < w.heap.size := by
  unfold TB World.cell? at h
  by_cases g : 6 < w.heap.size
  · exact g
  · have hn : w.heap[6]? = none := Array.getElem?_eq_none (by omega)
    simp [hn] at h
theorem TB.on {w w1 : World} (h : TB w) (hb : Below w.heap.size w w1) : TB w1 := (hb.cell (p := ⟨6, 15, none⟩) h.lt).trans h
def hexd (d : Nat) : UInt8 := if d < 10 then UInt8.ofNat (48 + d) else UInt8.ofNat (87 + d)
/-- a number's digits at base 16, no zeros ahead -/
def T (u : Nat) : List UInt8 := if u < 16 then [hexd u] else T (u / 16) ++ [hexd (u % 16)]
theorem T_small {u : Nat} (h : u < 16) : T u = [hexd u] := by rw [T, if_pos h]
theorem T_big {u : Nat} (h : ¬ u < 16) : T u = T (u / 16) ++ [hexd (u % 16)] := by rw [T, if_neg h]

set_option maxHeartbeats 2000000 in
set_option maxRecDepth 100000 in
theorem zeros_any (w : World) (h : TB w) : Calls Tryz.prog 116 #[.int .u64 16] w fun e w' => e = .returned (.int .i64 4) ∧ w = w' := by
  have HT : w.cell? ⟨6, 15, none⟩ = some (.int .u8 4) := h
  clear h
  have hb : bits .and .u64 16 (IntKind.u64.wrap (-16)) = 16 := by decide +kernel
  have hix : (IntKind.u64.wrap (16 * 285870213051353865) / 288230376151711744).toNat = 15 := by decide +kernel
  have hix2 : IntKind.u64.wrap (16 * 285870213051353865) / 288230376151711744 = 15 := by decide +kernel
  go_enter Tryz.func116, Tryz.ntmps116
  go_wp2_with (go_at_call 127; go_in)
  go_ret
  exact ⟨rfl, rfl⟩
theorem pow_any (w : World) : Calls Tryz.prog 115 #[.int .i64 16] w fun e w' => e = .returned (.bool true) ∧ w = w' := by
  have hb : bits .and .i64 16 15 = 0 := by decide +kernel
  go_enter Tryz.func115, Tryz.ntmps115
  go_wp2
  go_ret
  exact ⟨rfl, rfl⟩

/-- what stands in the array: behind i zeros, the digits s -/
structure St (u v : Nat) (s : List UInt8) (cs : Array Value) : Prop where
  len : s.length ≤ 7
  size : cs.size = 65
  eq : T u = T v ++ s
  lt : v < 16 ^ (8 - s.length)
  at_ : ∀ j (h : j < s.length), cs[65 - s.length + j]? = some (.int .u8 (s[j].toNat : Int))
theorem St.start {u : Nat} (h : u < 4294967296) (cs : Array Value) (hs : cs.size = 65) : St u u [] cs :=
  ⟨by simp, hs, by simp, by simpa using h, fun j h => absurd h (by simp)⟩
theorem put_at {s : List UInt8} {cs : Array Value} (hl : s.length ≤ 7) (hs : cs.size = 65) (hat : ∀ j (h : j < s.length), cs[65 - s.length + j]? = some (.int .u8 (s[j].toNat : Int))) (b : UInt8) :
    ∀ j (h : j < (b :: s).length), (cs.setIfInBounds (64 - s.length) (.int .u8 (b.toNat : Int)))[65 - (b :: s).length + j]? = some (.int .u8 ((b :: s)[j].toNat : Int)) := by
  intro j h
  rw [List.length_cons] at h
  rw [List.length_cons, show 65 - (s.length + 1) + j = 64 - s.length + j by omega]
  cases j with
  | zero =>
    rw [Nat.add_zero, Array.getElem?_setIfInBounds_self_of_lt (by omega)]; rfl
  | succ j =>
    rw [Array.getElem?_setIfInBounds_ne (by omega), show 64 - s.length + (j + 1) = 65 - s.length + j by omega, hat j (by omega)]
    rfl
theorem St.step {u v : Nat} {s : List UInt8} {cs : Array Value} (h : St u v s cs) (hv : ¬ v < 16) : St u (v / 16) (hexd (v % 16) :: s) (cs.setIfInBounds (64 - s.length) (.int .u8 ((hexd (v % 16)).toNat : Int))) := by
  have hl : s.length + 1 ≤ 7 := by
    rcases Nat.lt_or_ge s.length 7 with g | g
    · omega
    · exfalso
      have := h.lt
      rw [show 8 - s.length = 1 by have := h.len; omega] at this
      omega
  refine ⟨by rw [List.length_cons]; exact hl, by simp [h.size], ?_, ?_, put_at h.len h.size h.at_ _⟩
  · rw [h.eq, T_big hv, List.append_assoc]; rfl
  · have h1 := h.lt
    rw [show 8 - s.length = (8 - (s.length + 1)) + 1 by omega, Nat.pow_succ] at h1
    rw [List.length_cons]
    exact Nat.div_lt_of_lt_mul (by omega)
theorem dig_size : digits36.size = 36 := by decide +kernel
theorem dig_all : (List.range 16).all (fun d => digits36[d]! == hexd d) = true := by decide +kernel
theorem idx_at (D : ByteArray) (hD : D = digits36) (x : Int) (d : Nat) (hx : x = d) (hd : d < 16) (w : World) : (Instr.index 9 (.string D) (.int .u64 x)).run Tryz.prog w = .ok (.int .u8 ((hexd d).toNat : Int)) w := by
  subst hD hx
  have hsz := dig_size
  rw [run_index_string w 9 digits36 .u64 _ Tryz.underlying9, dif_pos ⟨by omega, by rw [hsz]; omega⟩]
  have h1 := eq_of_beq ((List.all_eq_true.1 dig_all) d (List.mem_range.2 hd))
  rw [getElem!_pos digits36 d (by omega)] at h1
  simp only [Int.toNat_natCast]
  rw [h1]

theorem and15 (v : Nat) (h : v < 18446744073709551616) : bits .and .u64 (v : Int) 15 = ((v % 16 : Nat) : Int) := by
  have h1 := (bits_nat .u64 64 (by decide) (fun n h0 h1 => by rw [IntKind.wrap_u64]; omega) v 15 (by omega) (by omega)).1
  rw [show ((15 : Nat) : Int) = 15 from rfl] at h1
  rw [h1]
  congr 1
  exact Nat.and_two_pow_sub_one_eq_mod v 4
theorem St.text {u v n : Nat} {s : List UInt8} {cs : Array Value} {w : World} (h : St u v s cs) (hv : v < 16) (hn : n + s.length = 64) :
    (convert 22 9 (.slice (some ⟨w.heap.size, n, none⟩) (65 - n) (65 - n))).run Tryz.prog (w.alloc (.cells (cs.setIfInBounds n (.int .u8 ((hexd v).toNat : Int))) 138)) = .ok (.string ⟨(T u).toArray⟩) (w.alloc (.cells (cs.setIfInBounds n (.int .u8 ((hexd v).toNat : Int))) 138)) := by
  have hp := put_at h.len h.size h.at_ (hexd v)
  rw [show 64 - s.length = n by omega] at hp
  have he : T u = hexd v :: s := by rw [h.eq, T_small hv]; rfl
  have hl : (hexd v :: s).length = 65 - n := by rw [List.length_cons]; omega
  have h1 := run_convert_bytes_back (P := Tryz.prog) (w.alloc (.cells (cs.setIfInBounds n (.int .u8 ((hexd v).toNat : Int))) 138)) 22 9 5 ⟨w.heap.size, n, none⟩ (65 - n) (hexd v :: s) Tryz.underlying22 Tryz.underlying5 Tryz.underlying9 (fun j hj => by
    rw [Lib.add_plain, World.cell?_alloc_new]
    have := hp j hj
    rw [show 65 - (hexd v :: s).length + j = n + j by rw [hl]; have := h.len; omega] at this
    exact this)
  rw [hl] at h1
  rw [he]
  exact h1

set_option maxHeartbeats 4000000 in
set_option maxRecDepth 100000 in
theorem formatBits_any (u : Nat) (hu : u < 4294967296) (w : World) (hT : TB w) :
    Calls Tryz.prog 97 #[.slice none 0 0, .int .u64 u, .int .i64 16, .bool false, .bool false] w fun e w' => e = .returned (.tuple #[.slice none 0 0, .string ⟨(T u).toArray⟩]) ∧ Below w.heap.size w w' := by
  have HT := Aside0.mk hT
  clear hT
  go_enter Tryz.func97, Tryz.ntmps97
  go_name_bytes_deep 40 PN hPN
  clear hPN
  go_name_bytes_deep 30 DG hDG
  have eDG : DG = digits36 := by rw [← hDG]; decide +kernel
  clear hDG
  have HDG := Aside0.mk eDG
  clear eDG
  go_wp2_with fail
  refine (pow_any _).mono ?_
  rintro e w' ⟨rfl, rfl⟩
  go_wp2_with fail
  refine (zeros_any _ (HT.out.on (below_alloc (Below.refl _ _) _))).mono ?_
  rintro e w' ⟨rfl, rfl⟩
  go_wp2
  go_loopw [1, 13] (fun v1 v13 w' => ∃ (v n : Nat) (s : List UInt8) (cs : Array Value), v1 = .int .u64 v ∧ v13 = .int .i64 ((n : Int) + 1) ∧ w' = w.alloc (.cells cs 138) ∧ Aside0 (St u v s cs) ∧ Aside0 (n + s.length = 64)) (fun v1 _ _ => (RowKit.intOf v1).toNat)
  case atStart => exact ⟨u, 64, [], _, rfl, rfl, rfl, ⟨St.start hu _ rfl⟩, ⟨rfl⟩⟩
  case round =>
    obtain ⟨v, n, s, cs, rfl, rfl, rfl, HS, HN⟩ := hrel
    have hn := HN.out
    have hlt := HS.out.len
    have hsz := HS.out.size
    obtain ⟨old, hold⟩ : ∃ o, cs[n]? = some o := ⟨cs[n]'(by omega), Array.getElem?_eq_getElem (by omega)⟩
    have hc : (w.alloc (.cells cs 138)).cell? ⟨w.heap.size, n, none⟩ = some old := by rw [World.cell?_alloc_new]; exact hold
    have hf : (w.alloc (.cells cs 138)).frozen? ⟨w.heap.size, n, none⟩ = false := World.frozen?_alloc_new _ _ _ _
    obtain ⟨d, hd⟩ : ∃ d, v % 16 = d := ⟨_, rfl⟩
    have hd16 : d < 16 := by omega
    have hX := idx_at DG HDG.out (d : Int) d rfl hd16
    have hv64 : v < 4294967296 := by
      have h1 := HS.out.lt
      have h2 : 16 ^ (8 - s.length) ≤ 16 ^ 8 := Nat.pow_le_pow_right (by decide) (by omega)
      omega
    have hn64 : n < 65 := by omega
    by_cases hv : v < 16
    · have hg : decide (16 ≤ (v : Int)) = false := decide_eq_false (by omega)
      obtain rfl : v = d := by omega
      clear hsz hold
      have hal : Tryz.prog.arrayLen 138 = 65 := by kernel_rfl
      have hsl : ∀ W, (Instr.sliceAt 138 (.pointer (some ⟨w.heap.size, 0, none⟩)) (some (.int .i64 (n : Int))) none none).run Tryz.prog W = .ok (.slice (some ⟨w.heap.size, n, none⟩) (65 - n) (65 - n)) W := fun W => by
        rw [run_sliceAt_array_l W 138 ⟨w.heap.size, 0, none⟩ (by simp [Program.arrayLen, Program.elem, Tryz.underlying138]) .i64 (n : Int) (by omega) (by rw [hal]; omega), hal]
        go_simp
        omega
      clear hal
      have hcv := St.text (w := w) HS.out hv hn
      go_wp2
      go_ret2
      exact ⟨rfl, below_alloc (Below.refl _ _) _⟩
    · have hg : decide (16 ≤ (v : Int)) = true := decide_eq_true (by omega)
      have hand : bits .and .u64 (v : Int) 15 = (d : Int) := by rw [and15 v (by omega), hd]
      have HS2 := Aside0.mk (HS.out.step hv)
      rw [hd, show 64 - s.length = n by omega] at HS2
      obtain ⟨q, hq⟩ : ∃ q, v / 16 = q := ⟨_, rfl⟩
      have hqi : (v : Int) / 16 = (q : Int) := by omega
      rw [hq] at HS2
      clear hsz hold
      go_wp2
      go_roundw
      case rel => exact ⟨q, n - 1, hexd d :: s, _, by go_num, by go_num, rfl, HS2, ⟨by rw [List.length_cons]; omega⟩⟩
      case measure => simp [RowKit.intOf]; omega

set_option maxHeartbeats 4000000 in
set_option maxRecDepth 100000 in
theorem FormatInt_any (u : Nat) (hu : u < 4294967296) (w : World) (hT : TB w) :
    Calls Tryz.prog 84 #[.int .i64 u, .int .i64 16] w fun e w' => e = .returned (.string ⟨(T u).toArray⟩) ∧ Below w.heap.size w w' := by
  have HT := Aside0.mk hT
  clear hT
  have hneg : decide ((u : Int) < 0) = false := decide_eq_false (by omega)
  go_enter Tryz.func84, Tryz.ntmps84
  go_wp2_with fail
  refine (formatBits_any u hu _ HT.out).mono ?_
  rintro e w' ⟨rfl, hb⟩
  have HB := Aside0.mk hb
  clear hb
  go_wp2
  go_ret
  exact ⟨rfl, HB.out⟩
theorem FormatInt16 (u : Nat) (hu : u < 4294967296) (w : World) (hT : TB w) :
    Calls Tryz.prog 73 #[.int .i64 u, .int .i64 16] w fun e w' => e = .returned (.string ⟨(T u).toArray⟩) ∧ Below w.heap.size w w' := by
  go_enter Tryz.func73, Tryz.ntmps73
  go_wp2_with fail
  refine (FormatInt_any u hu _ hT).mono ?_
  rintro e w' ⟨rfl, hb⟩
  go_wp2
  go_ret
  exact ⟨rfl, hb⟩
end Go.Proofs.YtempeenjpaldaaaGreatDoor.Hx
