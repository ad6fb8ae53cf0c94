/- Reading and writing texts of complex numbers, in plain lists. -/
import Derived.Test.YtempeenjpaldaaaGreatDoorSCpx3
import Derived.Test.YtempeenjpaldaaaGreatDoorPCxD
namespace Go.Proofs.YtempeenjpaldaaaGreatDoor.SCpx
open Go.RowKit Go.Proofs.YtempeenjpaldaaaGreatDoorW.PrintWords Go.Proofs.YtempeenjpaldaaaGreatDoorW.PrintLast Go.Proofs.YtempeenjpaldaaaGreatDoorW.PrintMore Fl Hx SNum
def valsC : List ByteArray → Option (List Int)
  | [] => some []
  | p :: r => (goodC p).bind fun v => (valsC r).map (v :: ·)
def readsC (P : List ByteArray) : List Int := P.map readC
theorem cpx_two {a b : Nat} (hb : b < 4294967296) : cpx.f a b = some (two a b) := by
  unfold cpx.f two
  rw [if_pos (by omega)]
theorem spec_runC (P : List ByteArray) (hP : P.length ≤ 256) : ∀ (m i k : Nat) (X : List Int), i + m = P.length → m + 42 ≤ k → X.length ≤ i → spec_l01CRead.l0 k X P i = some (resO X (valsC (P.drop i)))
  | _, _, 0, _, _, hk, _ => by omega
  | 0, i, k + 1, X, h, _, _ => by
    unfold spec_l01CRead.l0
    rw [if_neg (by omega), List.drop_eq_nil_of_le (by omega)]
    simp [valsC, resO]
  | m + 1, i, k + 1, X, h, hk, hX => by
    have hi : i < P.length := by omega
    conv => lhs; unfold spec_l01CRead.l0
    rw [if_pos (by omega), if_pos (by omega), rdOf_get P i hi, List.drop_eq_getElem_cons hi]
    simp only [valsC]
    by_cases h16 : P[i].size = 16
    · have e1 : spec_l01Digits.f k (P[i].extract 0 8) = some (digO (good (lo P[i]))) := dig_is (lo P[i]) (lo_size h16) k (by omega)
      have e2 : spec_l01Digits.f k (P[i].extract 8 P[i].size) = some (digO (good (SCpx.hi P[i]))) := dig_is (SCpx.hi P[i]) (hi_size h16) k (by omega)
      rw [if_pos (by omega), if_pos (by decide), if_pos (by omega), e1, Option.bind_some, e2, Option.bind_some]
      have hg : goodC P[i] = (good (lo P[i])).bind fun a => (good (SCpx.hi P[i])).map (two a) := by unfold goodC; rw [if_pos h16]
      rw [hg]
      cases ha : good (lo P[i]) with
      | none => rfl
      | some a =>
        cases hb : good (SCpx.hi P[i]) with
        | none => rfl
        | some b =>
          obtain ⟨_, ea, _⟩ := good_read ha
          obtain ⟨_, eb, lb⟩ := good_read hb
          simp only [digO, if_true, Option.bind_some, Option.map_some]
          rw [ea, eb, cpx_two lb, Option.bind_some, if_pos (by omega), w64 _ (by omega) (by omega), show (i : Int) + 1 = ((i + 1 : Nat) : Int) by omega]
          rw [spec_runC P hP m (i + 1) k _ (by omega) (by omega) (by rw [List.length_append, List.length_singleton]; omega), resO_cons]
    · rw [if_neg (by omega)]
      unfold goodC
      rw [if_neg h16]; rfl
theorem impl_step (s : ByteArray) (P : List ByteArray) (hP : P.length ≤ 1048577) (i k : Nat) (X : List Int) (hi : i < P.length) (hX : X.length ≤ 256) :
    impl_ReadComplex.l0 (k + 1 + 1) s X P (P.length : Int) i = if P[i].size = 16 ∧ X.length ≠ 256 then impl_ReadComplex.l0 k s (X ++ [readC P[i]]) P (P.length : Int) ((i + 1 : Nat) : Int) else some ([], false) := by
  conv => lhs; unfold impl_ReadComplex.l0
  rw [if_pos (by omega), if_pos (by omega), if_pos (by omega), rdOf_get P i hi]
  by_cases h16 : P[i].size = 16
  · rw [if_pos (by omega)]
    unfold impl_ReadComplex.j1
    by_cases h : X.length = 256
    · rw [if_pos (by rw [h]; rfl), if_neg (fun g => g.2 h)]
    · have hb : ((X.length : Int) == 256) = false := by rw [beq_eq_false_iff_ne]; omega
      have e1 : impl_readHex.f k (P[i].extract 0 8) = some ((readN (lo P[i]) : Nat) : Int) := by unfold impl_readHex.f; exact if_pos (lo_size h16)
      have e2 : impl_readHex.f k (P[i].extract 8 P[i].size) = some ((readN (SCpx.hi P[i]) : Nat) : Int) := by unfold impl_readHex.f; exact if_pos (hi_size h16)
      rw [hb, if_neg (by decide), if_pos (by decide), if_pos (by omega), e1, Option.bind_some, e2, Option.bind_some, cpx_two (readN_lt (hi_size h16)), Option.bind_some, if_pos (by omega), if_pos ⟨h16, h⟩, w64 _ (by omega) (by omega)]
      rfl
  · rw [if_neg (by omega), if_neg (fun g => h16 g.1)]
    unfold impl_ReadComplex.j1
    rw [if_pos rfl]
theorem impl_noC (s : ByteArray) (P : List ByteArray) (hP : P.length ≤ 1048577) : ∀ (m i k : Nat) (X : List Int), i + m = P.length → 2 * m + 1 ≤ k → X.length = i → i ≤ 256 → (256 < P.length ∨ ¬ ∀ p ∈ P.drop i, p.size = 16) →
    impl_ReadComplex.l0 k s X P (P.length : Int) i = some ([], false)
  | 0, i, k, X, h, _, hX, hi, hb => by
    exfalso
    rcases hb with hb | hb
    · omega
    · exact hb (by rw [List.drop_eq_nil_of_le (by omega)]; intro p hp; cases hp)
  | m + 1, i, k, X, h, hk, hX, hi, hb => by
    obtain ⟨k, rfl⟩ : ∃ q, k = q + 1 + 1 := ⟨k - 2, by omega⟩
    have hlt : i < P.length := by omega
    rw [impl_step s P hP i k X hlt (by omega)]
    by_cases g : P[i].size = 16 ∧ X.length ≠ 256
    · rw [if_pos g]
      exact impl_noC s P hP m (i + 1) k (X ++ [readC P[i]]) (by omega) (by omega) (by rw [List.length_append, List.length_singleton]; omega) (by omega) (hb.imp id (fun hb hn => hb (by
          rw [List.drop_eq_getElem_cons hlt]
          intro p hp
          rcases List.mem_cons.1 hp with rfl | hp
          · exact g.1
          · exact hn p hp)))
    · rw [if_neg g]
theorem impl_yesC (s : ByteArray) (P : List ByteArray) (hP : P.length ≤ 256) : ∀ (m i k : Nat) (X : List Int), i + m = P.length → 2 * m + 1 ≤ k → X.length = i → (∀ p ∈ P.drop i, p.size = 16) →
    ∃ k', k ≤ k' + 2 * m + 1 ∧ impl_ReadComplex.l0 k s X P (P.length : Int) i = (impl_ComplexText.f k' (X ++ readsC (P.drop i))).bind fun bt230 => (if bt230.2 = true then (if bt230.1.toList = s.toList then (some (X ++ readsC (P.drop i), true)) else (some (([] : List Int), false))) else (some (([] : List Int), false)))
  | _, _, 0, _, _, hk, _, _ => by omega
  | 0, i, k + 1, X, h, _, hX, hb => by
    refine ⟨k, by omega, ?_⟩
    conv => lhs; unfold impl_ReadComplex.l0
    rw [if_neg (by omega), List.drop_eq_nil_of_le (by omega), readsC, List.map_nil, List.append_nil]
  | m + 1, i, k + 1, X, h, hk, hX, hb => by
    obtain ⟨k, rfl⟩ : ∃ q, k = q + 1 := ⟨k - 1, by omega⟩
    have hlt : i < P.length := by omega
    rw [List.drop_eq_getElem_cons hlt] at hb
    have h16 := hb _ List.mem_cons_self
    obtain ⟨k', hk', h1⟩ := impl_yesC s P hP m (i + 1) k (X ++ [readC P[i]]) (by omega) (by omega) (by rw [List.length_append, List.length_singleton]; omega) (fun p hp => hb p (List.mem_cons_of_mem _ hp))
    refine ⟨k', by omega, ?_⟩
    rw [impl_step s P (by omega) i k X hlt (by omega), if_pos ⟨h16, by omega⟩, h1]
    have e : X ++ [readC P[i]] ++ readsC (P.drop (i + 1)) = X ++ readsC (P.drop i) := by
      rw [List.drop_eq_getElem_cons hlt, List.append_assoc]; rfl
    rw [e]
/-! ### the text -/
def cB (n : Int) : ByteArray := tB ((n.toNat / 4294967296 : Nat) : Int) ++ tB ((n.toNat % 4294967296 : Nat) : Int)
theorem cB_list (n : Int) : (cB n).data.toList = tC n := by
  unfold cB tC
  rw [app_list, tB_list, tB_list]; rfl
theorem cB_size (n : Int) (hn : n.toNat < 18446744073709551616) : (cB n).size = 16 := by
  rw [← data_length, cB_list, tC_len n hn]
theorem text_implC (xs : List Int) (hin : ∀ n ∈ xs, n.toNat < 18446744073709551616) (h64 : xs.length ≤ 256) (d : Nat) : ∀ (k i : Nat) (L : List ByteArray), i ≤ xs.length → xs.length - i = d → d < k → L.length = i →
    ∃ k', impl_ComplexText.l0 k L xs (xs.length : Int) (i : Int) = (impl_joined.f k' (L ++ (xs.drop i).map cB)).bind fun t => some (t, true) := by
  induction d with
  | zero =>
    intro k i L hi hd hk _
    obtain ⟨k, rfl⟩ : ∃ m, k = m + 1 := ⟨k - 1, by omega⟩
    have h1 : ¬ (i : Int) < (xs.length : Int) := by omega
    simp only [impl_ComplexText.l0]
    rw [if_neg h1, List.drop_eq_nil_of_le (by omega)]
    exact ⟨k, by simp⟩
  | succ d ih =>
    intro k i L hi hd hk hL
    obtain ⟨k, rfl⟩ : ∃ m, k = m + 1 := ⟨k - 1, by omega⟩
    have hlt : i < xs.length := by omega
    have h1 : (i : Int) < (xs.length : Int) := by omega
    have h2 : (0 : Int) ≤ (i : Int) := by omega
    have e : ((i : Int) + 1) = ((i + 1 : Nat) : Int) := by omega
    have hn := hin _ (List.getElem_mem hlt)
    simp only [impl_ComplexText.l0]
    rw [if_pos h1, if_pos h2, if_pos h1, rd_get xs i hlt]
    unfold reC.f imC.f
    rw [Option.bind_some, hex_impl (show InV _ by unfold InV; rw [Int.toNat_natCast]; omega) k, Option.bind_some, Option.bind_some, hex_impl (show InV _ by unfold InV; rw [Int.toNat_natCast]; omega) k, Option.bind_some]
    have hs := cB_size xs[i] hn
    unfold cB at hs
    rw [ByteArray.size_append] at hs
    rw [if_pos (by omega), if_pos (by omega), w64 _ (by omega) (by omega), e]
    obtain ⟨k', h⟩ := ih k (i + 1) (L ++ [cB xs[i]]) (by omega) (by omega) (by omega) (by simp [hL])
    refine ⟨k', ?_⟩
    have e2 : L ++ [cB xs[i]] ++ (xs.drop (i + 1)).map cB = L ++ (xs.drop i).map cB := by
      rw [List.drop_eq_getElem_cons hlt, List.map_cons, List.append_assoc]
      rfl
    rw [e2] at h
    exact h
theorem lens_le : ∀ (l : List (List UInt8)), (∀ x ∈ l, x.length = 16) → (Lib.joinTail [44] l).length = 17 * l.length
  | [], _ => rfl
  | x :: l, h => by
    have := lens_le l (fun y hy => h y (List.mem_cons_of_mem _ hy))
    have hx := h x List.mem_cons_self
    simp only [Lib.joinTail, List.map_cons, List.flatten_cons, List.length_append, List.length_cons, List.length_nil] at this ⊢
    omega
theorem text_listC (x : Int) (l : List Int) (hin : ∀ n ∈ x :: l, n.toNat < 18446744073709551616) (h64 : (x :: l).length ≤ 256) (k : Nat) (hk : (x :: l).length + 1 ≤ k) :
    ∃ t, impl_ComplexText.f k (x :: l) = some (t, true) ∧ t.data.toList = Lib.join ((x :: l).map tC) [44] := by
  unfold impl_ComplexText.f
  obtain ⟨k', hi⟩ := text_implC (x :: l) hin h64 (x :: l).length k 0 [] (by omega) (by omega) (by omega) rfl
  rw [if_neg (show ¬ ((x :: l).length : Int) > 256 by omega), show (0 : Int) = ((0 : Nat) : Int) from rfl, hi]
  rw [List.nil_append, List.drop_zero]
  have hl : joinB ((x :: l).map cB) (⟨#[44]⟩ : ByteArray) = Lib.join ((x :: l).map tC) [44] := by
    unfold joinB
    rw [List.map_map]
    exact congrArg (fun z => Lib.join z [44]) (List.map_congr_left (fun n _ => cB_list n))
  have hlen : (Lib.join ((x :: l).map tC) [44]).length ≤ 4369 := by
    have h1 := tC_len x (hin x List.mem_cons_self)
    have h2 := lens_le (l.map tC) (fun y hy => by obtain ⟨n, hn, rfl⟩ := List.mem_map.1 hy; exact tC_len n (hin n (List.mem_cons_of_mem _ hn)))
    rw [List.map_cons, Lib.join_cons, List.length_append, h1, h2, List.length_map]
    simp at h64
    omega
  unfold impl_joined.f strings_Join.f
  rw [if_neg (by simp; omega), if_pos ⟨by rw [hl]; omega, by simp at h64 ⊢; omega⟩]
  refine ⟨⟨(joinB ((x :: l).map cB) (⟨#[44]⟩ : ByteArray)).toArray⟩, rfl, ?_⟩
  rw [← hl]
theorem joinTail_injC : ∀ (a b : List (List UInt8)), (∀ x ∈ a, x.length = 16) → (∀ x ∈ b, x.length = 16) → Lib.joinTail [44] a = Lib.joinTail [44] b → a = b
  | [], [], _, _, _ => rfl
  | [], y :: b, _, _, h => by simp [Lib.joinTail] at h
  | x :: a, [], _, _, h => by simp [Lib.joinTail] at h
  | x :: a, y :: b, ha, hb, h => by
    simp only [Lib.joinTail, List.map_cons, List.flatten_cons] at h
    obtain ⟨h1, h2⟩ := List.append_inj h (by rw [List.length_append, List.length_append, ha x List.mem_cons_self, hb y List.mem_cons_self])
    have h3 : x = y := List.append_cancel_left h1
    rw [h3, joinTail_injC a b (fun z hz => ha z (List.mem_cons_of_mem _ hz)) (fun z hz => hb z (List.mem_cons_of_mem _ hz)) h2]
theorem join_injC {a b : List (List UInt8)} (ha : ∀ x ∈ a, x.length = 16) (hb : ∀ x ∈ b, x.length = 16) (hna : a ≠ []) (hnb : b ≠ []) (h : Lib.join a [44] = Lib.join b [44]) : a = b := by
  obtain ⟨x, a, rfl⟩ := List.exists_cons_of_ne_nil hna
  obtain ⟨y, b, rfl⟩ := List.exists_cons_of_ne_nil hnb
  rw [Lib.join_cons, Lib.join_cons] at h
  obtain ⟨h1, h2⟩ := List.append_inj h (by rw [ha x List.mem_cons_self, hb y List.mem_cons_self])
  rw [h1, joinTail_injC a b (fun z hz => ha z (List.mem_cons_of_mem _ hz)) (fun z hz => hb z (List.mem_cons_of_mem _ hz)) h2]
/-! ### both answers -/
def readCB (s : ByteArray) : List Int × Bool :=
  if s.toList = ([110, 111, 110, 101] : List UInt8) then ([], true) else if 256 < (piecesB s).length then ([], false) else resO [] (valsC (piecesB s))
theorem spec_readsC (s : ByteArray) (hs : s.size ≤ 1048576) (k : Nat) (hk : s.size + 20000 ≤ k) : spec_ReadComplex.f k s = some (readCB s) := by
  unfold spec_ReadComplex.f spec_l01CRead.f readCB
  rw [Option.bind_some]
  by_cases h : s.toList = ([110, 111, 110, 101] : List UInt8)
  · rw [if_pos h, if_pos h]; rfl
  · rw [if_neg h, if_neg h, cut_is s hs k (by omega), Option.bind_some]
    by_cases g : 256 < (piecesB s).length
    · rw [if_pos (by omega), if_pos g]; rfl
    · rw [if_neg (by omega), if_neg g]
      have := spec_runC (piecesB s) (by omega) (piecesB s).length 0 k [] (by omega) (by omega) (by simp)
      rw [List.drop_zero, show ((0 : Nat) : Int) = 0 from rfl] at this
      rw [this]; rfl
theorem valsC_good : ∀ (P : List ByteArray), (∀ p ∈ P, goodC p = some (readC p)) → valsC P = some (readsC P)
  | [], _ => rfl
  | p :: P, h => by
    rw [valsC, h p List.mem_cons_self, Option.bind_some, valsC_good P (fun q hq => h q (List.mem_cons_of_mem _ hq))]; rfl
theorem valsC_some : ∀ (P : List ByteArray) (vs : List Int), valsC P = some vs → ∀ p ∈ P, p.size = 16 ∧ goodC p = some (readC p)
  | [], _, _, p, hp => by cases hp
  | q :: P, vs, h, p, hp => by
    rw [valsC] at h
    obtain ⟨v, hv, h⟩ := Option.bind_eq_some_iff.1 h
    obtain ⟨us, hu, rfl⟩ := Option.map_eq_some_iff.1 h
    rcases List.mem_cons.1 hp with rfl | hp
    · exact goodC_read hv
    · exact valsC_some P us hu p hp
theorem impl_readsC (s : ByteArray) (hs : s.size ≤ 1048576) (k : Nat) (hk : 3 * s.size + 20000 ≤ k) : impl_ReadComplex.f k s = some (readCB s) := by
  unfold impl_ReadComplex.f impl_pieces.f readCB
  by_cases hn : s.toList = ([110, 111, 110, 101] : List UInt8)
  · rw [if_pos hn, if_pos hn, Option.bind_some]
    obtain ⟨k', hk', h1⟩ := impl_yesC s [] (by simp) 0 0 k [] rfl (by omega) rfl (fun p hp => by cases hp)
    rw [show ((0 : Nat) : Int) = 0 from rfl] at h1
    rw [h1]
    have h2 : impl_ComplexText.f k' ([] ++ readsC (([] : List ByteArray).drop 0)) = some ((⟨#[110, 111, 110, 101]⟩ : ByteArray), true) := by
      obtain ⟨k2, rfl⟩ : ∃ k2, k' = k2 + 1 := ⟨k' - 1, by omega⟩
      unfold impl_ComplexText.f
      rw [if_neg (by simp [readsC])]
      unfold impl_ComplexText.l0
      rw [if_neg (by simp [readsC])]
      rfl
    rw [h2, Option.bind_some, if_pos rfl, if_pos (by rw [hn]; decide +kernel)]
    rfl
  · rw [if_neg hn, if_neg hn, split_is s hs k, Option.bind_some, Option.bind_some]
    have hpl := pieces_len s
    by_cases hb : 256 < (piecesB s).length ∨ ¬ ∀ p ∈ (piecesB s).drop 0, p.size = 16
    · have h1 := impl_noC s (piecesB s) (by omega) (piecesB s).length 0 k [] (by omega) (by omega) rfl (by omega) hb
      rw [show ((0 : Nat) : Int) = 0 from rfl] at h1
      rw [h1]
      by_cases g : 256 < (piecesB s).length
      · rw [if_pos g]
      · rw [if_neg g]
        cases hv : valsC (piecesB s) with
        | none => rfl
        | some vs => exact absurd (fun p hp => (valsC_some _ vs hv p (by simpa using hp)).1) (hb.resolve_left g)
    · have hlen : ¬ 256 < (piecesB s).length := fun h => hb (Or.inl h)
      have h8 : ∀ p ∈ (piecesB s).drop 0, p.size = 16 := Classical.byContradiction (fun h => hb (Or.inr h))
      obtain ⟨k', hk', h1⟩ := impl_yesC s (piecesB s) (by omega) (piecesB s).length 0 k [] (by omega) (by omega) rfl h8
      rw [show ((0 : Nat) : Int) = 0 from rfl] at h1
      rw [h1, if_neg hlen]
      rw [List.drop_zero, List.nil_append]
      rw [List.drop_zero] at h8
      obtain ⟨x, r, hx⟩ := cutAcc_ne s.data.toList []
      have hP : piecesB s = mkB x :: r.map mkB := by unfold piecesB; rw [hx]; rfl
      have hrd : readsC (piecesB s) = readC (mkB x) :: readsC (r.map mkB) := by rw [hP]; rfl
      have hrl : (readsC (piecesB s)).length = (piecesB s).length := List.length_map ..
      obtain ⟨t, ht, hu⟩ := text_listC (readC (mkB x)) (readsC (r.map mkB)) (fun n hn => by
        rw [← hrd] at hn
        obtain ⟨p, hp, rfl⟩ := List.mem_map.1 hn
        exact readC_lt (h8 p hp)) (by rw [← hrd]; omega) k' (by rw [← hrd]; omega)
      rw [← hrd] at ht hu
      rw [ht, Option.bind_some, if_pos rfl]
      have hj : s.data.toList = Lib.join ((piecesB s).map fun p => p.data.toList) [44] := by
        have h1 := join_cut s.data.toList []
        rw [List.nil_append] at h1
        have h2 : ((piecesB s).map fun p => p.data.toList) = cutAcc [] s.data.toList := by
          unfold piecesB
          rw [List.map_map]
          exact (List.map_congr_left (fun l _ => rfl)).trans (List.map_id _)
        rw [h2, h1]
      have hmm : (readsC (piecesB s)).map tC = (piecesB s).map fun p => tC (readC p) := by unfold readsC; rw [List.map_map]; rfl
      by_cases he : t.toList = s.toList
      · rw [if_pos he]
        have h3 := list_eq.1 he
        rw [hu, hj, hmm] at h3
        have h4 := join_injC (fun l hl => by obtain ⟨p, hp, rfl⟩ := List.mem_map.1 hl; exact tC_len _ (readC_lt (h8 p hp))) (fun l hl => by obtain ⟨p, hp, rfl⟩ := List.mem_map.1 hl; rw [data_length]; exact h8 p hp) (by rw [hP]; simp) (by rw [hP]; simp) h3
        rw [valsC_good (piecesB s) (fun p hp => (tC_iff (h8 p hp)).1 (List.map_inj_left.1 h4 p hp))]; rfl
      · rw [if_neg he]
        cases hv : valsC (piecesB s) with
        | none => rfl
        | some vs =>
          exfalso
          apply he
          apply list_eq.2
          rw [hu, hj, hmm]
          congr 1
          exact List.map_congr_left (fun p hp => (tC_iff (h8 p hp)).2 (valsC_some _ vs hv p hp).2)
theorem valsC_len : ∀ (P : List ByteArray) (vs : List Int), valsC P = some vs → vs.length = P.length
  | [], vs, h => by cases h; rfl
  | p :: r, vs, h => by
    rw [valsC] at h
    obtain ⟨v, hv, h⟩ := Option.bind_eq_some_iff.1 h
    obtain ⟨us, hu, rfl⟩ := Option.map_eq_some_iff.1 h
    simp [valsC_len r us hu]
theorem readCB_len (s : ByteArray) : (readCB s).1.length ≤ 256 := by
  unfold readCB
  split
  · simp
  · split
    · simp
    · cases hv : valsC (piecesB s) with
      | none => simp [resO]
      | some vs =>
        have := valsC_len _ _ hv
        simp only [resO, List.nil_append]
        omega
end Go.Proofs.YtempeenjpaldaaaGreatDoor.SCpx
