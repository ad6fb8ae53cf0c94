/- The program's readHex, for strings of eight bytes. -/
import Derived.Test.YtempeenjpaldaaaGreatDoorParseH
namespace Go.Proofs.YtempeenjpaldaaaGreatDoor.Hx
open Go.RowKit Go.Lib Go.Proofs.YtempeenjpaldaaaGreatDoorW.PrintWords Fl
theorem hv_lt {c d : Nat} (h : hv c = some d) : d < 16 := by
  unfold hv at h
  split at h
  · obtain rfl := Option.some.inj h; omega
  · split at h
    · obtain rfl := Option.some.inj h; omega
    · cases h
theorem parse_lt : ∀ (l : List UInt8) (k acc n : Nat), acc < 16 ^ k → parseH acc l = some n → n < 16 ^ (k + l.length)
  | [], k, acc, n, h, hp => by obtain rfl := Option.some.inj hp; exact h
  | c :: l, k, acc, n, h, hp => by
    unfold parseH at hp
    obtain ⟨d, hd, hp⟩ := Option.bind_eq_some_iff.1 hp
    have := hv_lt hd
    have h2 := parse_lt l (k + 1) (acc * 16 + d) n (by rw [Nat.pow_succ]; omega) hp
    rw [List.length_cons, show k + (l.length + 1) = k + 1 + l.length by omega]
    exact h2
theorem parse8 {t : ByteArray} (h8 : t.size = 8) {n : Nat} (h : parseH 0 t.data.toList = some n) : n < 4294967296 := by
  have h1 := parse_lt t.data.toList 0 0 n (by decide) h
  have h2 : t.data.toList.length = 8 := by rw [← h8, Lib.size_eq]
  rw [h2] at h1
  simpa using h1
set_option maxHeartbeats 2000000 in
set_option maxRecDepth 100000 in
theorem ParseUint_ok (t : ByteArray) (h8 : t.size = 8) (n : Nat) (hp : parseH 0 t.data.toList = some n) (w : World) :
    Calls Tryz.prog 77 #[.string t, .int .i64 16, .int .i64 32] w fun e w' => e = .returned (.tuple #[.int .u64 n, .nilIface]) ∧ Below w.heap.size w w' := by
  have HP := Aside0.mk hp
  clear hp
  go_enter Tryz.func77, Tryz.ntmps77
  go_wp2_with fail
  refine (parse_any t h8 _).mono ?_
  rintro e w' ⟨rfl, hw⟩
  have HW := Aside0.mk hw
  clear hw
  rw [HP.out, uV]
  go_wp2
  go_ret2
  exact ⟨rfl, by rw [HW.out]; exact Lib.bytesWorld_below _ _ _⟩
/-- the library's error variable -/
def TS (w : World) : Prop := ∃ tp p, w.cell? ⟨2, 0, none⟩ = some (.iface tp p)
theorem TS.on {w w1 : World} (h : TS w) (hb : Below w.heap.size w w1) : TS w1 := by
  obtain ⟨tp, p, h⟩ := h
  exact ⟨tp, p, (hb.cell (p := ⟨2, 0, none⟩) (World.block_lt_of_cell? w _ h)).trans h⟩
set_option maxHeartbeats 2000000 in
set_option maxRecDepth 100000 in
theorem ParseUint_no (t : ByteArray) (h8 : t.size = 8) (hp : parseH 0 t.data.toList = none) (w : World) (hT : TS w) :
    Calls Tryz.prog 77 #[.string t, .int .i64 16, .int .i64 32] w fun e w' => ∃ v, e = .returned (.tuple #[.int .u64 0, v]) ∧ Below w.heap.size w w' := by
  have HP := Aside0.mk hp
  have HT := Aside0.mk hT
  have H8 := Aside0.mk h8
  clear hp hT h8
  go_enter Tryz.func77, Tryz.ntmps77
  go_wp2_with fail
  refine (parse_any t H8.out _).mono ?_
  rintro e w1 ⟨rfl, hw⟩
  have B1 : Aside0 (Below w.heap.size w w1) := Aside0.mk (by rw [hw]; exact Lib.bytesWorld_below _ _ _)
  clear hw
  rw [HP.out, uV]
  obtain ⟨tp, p, hev⟩ := TS.on HT.out B1.out
  have HE := Aside0.mk (Any.strconv_toError_syntax { Tryz.laysC174 with } ⟨#[80, 97, 114, 115, 101, 85, 105, 110, 116]⟩ t 16 32 (.iface tp p) w1 (by have := H8.out; omega) hev (Or.inr ⟨tp, p, rfl⟩))
  clear hev
  go_wp2_with fail
  refine HE.out.mono ?_
  rintro e w2 ⟨N, rfl, -, -, hb⟩
  have B2 := Aside0.mk hb
  clear hb
  go_wp2
  go_ret2
  exact ⟨_, rfl, below_step B1.out B2.out⟩
/-- the bits that readHex gives -/
def readN (t : ByteArray) : Nat := (parseH 0 t.data.toList).getD 0
set_option maxHeartbeats 2000000 in
set_option maxRecDepth 100000 in
theorem readHex_any (t : ByteArray) (h8 : t.size = 8) (w : World) (hT : TS w) :
    Calls Tryz.prog 51 #[.string t] w fun e w' => e = .returned (.float .f32 (readN t)) ∧ Below w.heap.size w w' := by
  cases hp : parseH 0 t.data.toList with
  | some n =>
    have hn := parse8 h8 hp
    have hr : readN t = n := by rw [readN, hp]; rfl
    rw [hr]
    have HP := Aside0.mk hp
    have hn1 : (n : Int) < 4294967296 := by omega
    clear hp hr
    go_enter Tryz.func51, Tryz.ntmps51
    go_wp2_with fail
    refine (ParseUint_ok t h8 n HP.out _).mono ?_
    rintro e w1 ⟨rfl, hb⟩
    have B1 := Aside0.mk hb
    clear hb
    go_wp2
    go_ret
    exact ⟨by simp, B1.out⟩
  | none =>
    have hr : readN t = 0 := by rw [readN, hp]; rfl
    rw [hr]
    have HP := Aside0.mk hp
    have HT := Aside0.mk hT
    clear hp hr hT
    go_enter Tryz.func51, Tryz.ntmps51
    go_wp2_with fail
    refine (ParseUint_no t h8 HP.out _ HT.out).mono ?_
    rintro e w1 ⟨v, rfl, hb⟩
    have B1 := Aside0.mk hb
    clear hb
    go_wp2
    go_ret
    exact ⟨by simp, B1.out⟩
end Go.Proofs.YtempeenjpaldaaaGreatDoor.Hx
