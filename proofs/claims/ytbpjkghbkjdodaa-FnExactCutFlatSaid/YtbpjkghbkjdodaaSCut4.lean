/- The law's marks of a row of rows of float32 numbers, markFloat32SS and heldFloat32SS. -/
import Derived.Test.YtbpjkghbkjdodaaSCut3
import Derived.Test.YtbpjkghbkjdodaaMarkF
namespace Go.Proofs.Ytbpjkghbkjdodaa.SBnd
open Go.RowKit Go.Proofs.YtbpjkghbkjdodaaW.PrintWords Go.Proofs.YtbpjkghbkjdodaaW.PrintLast Go.Proofs.YtbpjkghbkjdodaaW.PrintMore Fl
theorem R_map {α β : Type} {d : Kd α} {d' : Kd β} (f : α → β) (hsz : d'.sz = d.sz) (hM : ∀ w base ok x cs, d.M w base ok x cs → d'.M w base ok (f x) cs)
    {e : Nat} {w : World} {base : Nat} {ok : Nat → Prop} {v : Value} {xs : List α} (h : d.R e w base ok v xs) : d'.R e w base ok v (xs.map f) := by
  obtain ⟨h0, inner, ho, hr⟩ := h
  refine ⟨h0, inner, by rw [List.length_map, hsz]; exact ho, by rw [List.length_map, hsz]; exact hr.1, fun j p hj => ?_⟩
  rw [List.getElem?_map] at hj
  obtain ⟨x, hx, rfl⟩ := Option.map_eq_some_iff.1 hj
  rw [hsz]
  exact hM _ _ _ _ _ (hr.2 j x hx)
theorem R_nat {w : World} {base : Nat} {ok : Nat → Prop} {v : Value} {xs : List Int} (h : FKI.R 34 w base ok v xs) : FK.R 34 w base ok v (xs.map Int.toNat) :=
  R_map (d := FKI) (d' := FK) Int.toNat rfl (fun _ _ _ _ _ h => h) h
theorem R_int {w : World} {base : Nat} {ok : Nat → Prop} {v : Value} {xs : List Nat} (h : FK.R 34 w base ok v xs) : FKI.R 34 w base ok v (xs.map Int.ofNat) :=
  R_map (d := FK) (d' := FKI) Int.ofNat rfl (fun _ _ _ _ _ h => h) h
/-- the marks m, m + 1, .. -/
def im (m : Int) (n : Nat) : List Int := (marks m n).map Int.ofNat
theorem im_length (m : Int) (n : Nat) : (im m n).length = n := by rw [im, List.length_map, marks_length]
theorem im_nat (m : Int) (n : Nat) : (im m n).map Int.toNat = marks m n := by
  rw [im, List.map_map]
  exact (List.map_congr_left (fun x _ => rfl)).trans (List.map_id _)
theorem markI_any (v : Value) (l : List Int) (m : Int) (w : World) (base : Nat) (ok : Nat → Prop) (hr : FKI.R 34 w base ok v l) (h0 : 0 ≤ m) (hm : m + l.length ≤ 1000000000000) :
    Calls Try.prog 18 #[v, .int .i64 m] w fun e w' => e = .returned (.int .i64 (m + l.length)) ∧ FKI.R 34 w' base ok v (im m l.length) ∧ w.grownBy w' v.ownBlock := by
  refine (markF_any v (l.map Int.toNat) m w base ok (R_nat hr) h0 (by rw [List.length_map]; exact hm)).mono ?_
  rintro e w' ⟨rfl, h1, h2⟩
  rw [List.length_map] at h1 ⊢
  exact ⟨rfl, R_int h1, h2⟩
theorem heldI_any (A : Option Addr) (c n : Nat) (m : Int) (w : World) (hr0 : FKI.C w A n (im m n)) (h0 : 0 ≤ m) (hm : m + n ≤ 1000000000000) :
    Calls Try.prog 53 #[.slice A n c, .int .i64 m] w fun e w' => e = .returned (.int .i64 (m + n)) ∧ w = w' :=
  heldF_any A c n m w (by have := C_nat hr0; rwa [im_nat] at this) h0 hm

/-- how many numbers rows have -/
def tot (rs : List (List Int)) : Nat := (rs.map List.length).sum
/-- rows' marks -/
def mrows : Int → List (List Int) → List (List Int)
  | _, [] => []
  | m, r :: rs => im m r.length :: mrows (m + r.length) rs
theorem mrows_length : ∀ (m : Int) (rs : List (List Int)), (mrows m rs).length = rs.length
  | _, [] => rfl
  | m, r :: rs => by simp [mrows, mrows_length]
theorem tot_cons (r : List Int) (rs : List (List Int)) : tot (r :: rs) = r.length + tot rs := by simp [tot]
theorem mrows_snoc : ∀ (m : Int) (rs : List (List Int)) (r : List Int), mrows m (rs ++ [r]) = mrows m rs ++ [im (m + (tot rs : Nat)) r.length]
  | m, [], r => by simp [mrows, tot]
  | m, q :: rs, r => by
    simp only [List.cons_append, mrows]
    rw [mrows_snoc, tot_cons, show m + (q.length : Int) + ((tot rs : Nat) : Int) = m + ((q.length + tot rs : Nat) : Int) by omega]
theorem tot_snoc (rs : List (List Int)) (r : List Int) : tot (rs ++ [r]) = tot rs + r.length := by simp [tot]
theorem take_succ {rs : List (List Int)} {j : Nat} (hj : j < rs.length) : rs.take (j + 1) = rs.take j ++ [rs.getD j []] := by
  rw [List.take_add_one, List.getElem?_eq_getElem hj, List.getD_eq_getElem?_getD, List.getElem?_eq_getElem hj]; rfl
theorem drop_at {rs : List (List Int)} {j : Nat} (hj : j < rs.length) : rs.drop j = rs.getD j [] :: rs.drop (j + 1) := by
  rw [List.drop_eq_getElem_cons hj, List.getD_eq_getElem?_getD, List.getElem?_eq_getElem hj]; rfl
theorem tot_take {rs : List (List Int)} {j : Nat} (hj : j < rs.length) : tot (rs.take (j + 1)) = tot (rs.take j) + (rs.getD j []).length := by rw [take_succ hj, tot_snoc]
theorem tot_split (rs : List (List Int)) (j : Nat) : tot rs = tot (rs.take j) + tot (rs.drop j) := by
  have h : tot (rs.take j ++ rs.drop j) = tot (rs.take j) + tot (rs.drop j) := by simp only [tot, List.map_append, List.sum_append]
  rw [List.take_append_drop] at h
  exact h
theorem mix_length {rs : List (List Int)} {j : Nat} (m : Int) (hj : j ≤ rs.length) : (mrows m (rs.take j) ++ rs.drop j).length = rs.length := by
  rw [List.length_append, mrows_length, List.length_take, List.length_drop]; omega
theorem mix_get {rs : List (List Int)} {j : Nat} (m : Int) (hj : j < rs.length) : (mrows m (rs.take j) ++ rs.drop j).getD j [] = rs.getD j [] := by
  rw [List.getD_eq_getElem?_getD, List.getElem?_append_right (by rw [mrows_length, List.length_take]; omega), mrows_length, List.length_take, Nat.min_eq_left (by omega), Nat.sub_self, List.getElem?_drop, Nat.add_zero, List.getD_eq_getElem?_getD]
theorem mix_step {rs : List (List Int)} {j : Nat} (m : Int) (hj : j < rs.length) : (mrows m (rs.take j) ++ rs.drop j).set j (im (m + (tot (rs.take j) : Nat)) (rs.getD j []).length) = mrows m (rs.take (j + 1)) ++ rs.drop (j + 1) := by
  rw [List.set_append_right _ _ (by rw [mrows_length, List.length_take]; omega), mrows_length, List.length_take, Nat.min_eq_left (by omega), Nat.sub_self, drop_at hj, List.set_cons_zero, take_succ hj, mrows_snoc, List.append_assoc]
  rfl
theorem mrows_get {rs : List (List Int)} {j : Nat} (m : Int) (hj : j < rs.length) : (mrows m rs).getD j [] = im (m + (tot (rs.take j) : Nat)) (rs.getD j []).length := by
  have h1 : mrows m rs = mrows m (rs.take (j + 1)) ++ mrows (m + (tot (rs.take (j + 1)) : Nat)) (rs.drop (j + 1)) := by
    have : ∀ (xs ys : List (List Int)) (m : Int), mrows m (xs ++ ys) = mrows m xs ++ mrows (m + (tot xs : Nat)) ys := by
      intro xs ys
      induction xs with
      | nil => intro m; simp [mrows, tot]
      | cons a xs ih =>
        intro m
        simp only [List.cons_append, mrows]
        rw [ih, tot_cons, show m + (a.length : Int) + ((tot xs : Nat) : Int) = m + ((a.length + tot xs : Nat) : Int) by omega]
    conv => lhs; rw [← List.take_append_drop (j + 1) rs]
    rw [this]
  rw [h1, take_succ hj, mrows_snoc, List.append_assoc, List.getD_eq_getElem?_getD, List.getElem?_append_right (by rw [mrows_length, List.length_take]; omega), mrows_length, List.length_take, Nat.min_eq_left (by omega), Nat.sub_self]
  rfl

theorem mark_round {w wr : World} {base : Nat} {ok oki : Nat → Prop} {A : Option Addr} {c j n t : Nat} {m : Int} {rs : List (List Int)} {vi : Value} (hlt : j < rs.length) (hn : (rs.getD j []).length = n) (ht : tot (rs.take j) = t) (hb : base ≤ w.heap.size)
    (HG : Below base w wr) {row : List Int} (hM : FKI.R 34 wr base oki vi row)
    (hback : ∀ {w1 : World} {row : Option Nat} {x' : List Int}, wr.grownBy w1 row → (∀ k, row = some k → oki k) → (Kd.slice 34 FKI).M w1 base oki x' [vi] → Kd.S (Kd.slice 34 FKI) 27 w1 base ok (.slice A rs.length c) ((mrows m (rs.take j) ++ rs.drop j).set ((j : Nat) : Int).toNat x'))
    (w1 : World) (hg : wr.grownBy w1 vi.ownBlock) (hR : FKI.R 34 w1 base oki vi (im (m + (t : Nat)) n)) :
    Kd.S (Kd.slice 34 FKI) 27 w1 base ok (.slice A rs.length c) (mrows m (rs.take (j + 1)) ++ rs.drop (j + 1)) ∧ Below base w w1 := by
  subst hn ht
  have h9 := hback (x' := im (m + (tot (rs.take j) : Nat)) (rs.getD j []).length) hg (fun k hk => hM.1 k hk) ⟨vi, rfl, hR⟩
  rw [Int.toNat_natCast, mix_step m hlt] at h9
  exact ⟨h9, pw_below_grown HG vi.ownBlock (Nat.le_trans hb HG.size) hg (fun k hk => Kd.R_base hM k hk)⟩

set_option maxHeartbeats 1000000 in
set_option maxRecDepth 100000 in
theorem markSS_any (v : Value) (rs : List (List Int)) (m : Int) (w : World) (base : Nat) (ok : Nat → Prop) (hr : Kd.S (Kd.slice 34 FKI) 27 w base ok v rs) (hb : base ≤ w.heap.size) (h0 : 0 ≤ m) (hm : m + (tot rs : Nat) ≤ 1000000000000) :
    Calls Try.prog 19 #[v, .int .i64 m] w fun e w' => e = .returned (.int .i64 (m + (tot rs : Nat))) ∧ Kd.S (Kd.slice 34 FKI) 27 w' base ok v (mrows m rs) ∧ Below base w w' := by
  have HR := Aside0.mk hr
  obtain ⟨A, c, rfl, -, hC⟩ := Kd.S_reads hr
  clear hr
  have hmx := Kd.C_max hC
  clear hC
  go_enter Try.func19, Try.ntmps19
  go_wp2
  go_loopw [1, 5] (fun v1 v5 w' => ∃ j t : Nat, v1 = .int .i64 (m + (t : Nat)) ∧ v5 = .int .i64 j ∧ Aside0 (j ≤ rs.length) ∧ Aside0 (tot (rs.take j) = t) ∧ Aside0 (Kd.S (Kd.slice 34 FKI) 27 w' base ok (.slice A rs.length c) (mrows m (rs.take j) ++ rs.drop j)) ∧ Aside0 (Below base w w')) (fun _ v5 _ => rs.length - (intOf v5).toNat)
  case atStart => exact ⟨0, 0, by simp, rfl, ⟨by omega⟩, ⟨rfl⟩, ⟨by simpa [mrows] using HR.out⟩, ⟨Below.refl _ _⟩⟩
  case round =>
    obtain ⟨j, t, rfl, rfl, HJ, HT, HO1, HG⟩ := hrel
    clear HR
    by_cases hlt : j < rs.length
    · obtain ⟨go9, co9, eo9, gb9, gl9, cl9, HG9⟩ := Kd.S_form HO1.out (by rw [mix_length m HJ.out]; omega)
      rw [mix_length m HJ.out] at eo9
      injection eo9 with ea en ec
      subst ea ec
      clear en gb9 gl9 HG9
      obtain ⟨oki, ce, hcl, ⟨vi, rfl, hM⟩, hcc, hoki, hback⟩ := Kd.S_borrow HO1.out ([] : List Int) (j : Int) (by omega) (by omega)
      rw [Int.toNat_natCast, mix_get m hlt] at hM
      have hy := hcc 0 vi rfl
      rw [Int.toNat_natCast, show (Kd.slice 34 FKI).sz = 1 from rfl, Nat.mul_one, Nat.add_zero, add_at, Nat.zero_add] at hy
      obtain ⟨n, hn⟩ : ∃ n, (rs.getD j []).length = n := ⟨_, rfl⟩
      have hts := tot_split rs (j + 1)
      rw [tot_take hlt, hn, HT.out] at hts
      have HT1 := Aside0.mk (tot_take hlt)
      rw [hn, HT.out] at HT1
      have HM := Aside0.mk hM
      have HK := Aside0.mk (fun w1 => mark_round (c := c) (A := some ⟨go9, 0, none⟩) hlt hn HT.out hb HG.out hM hback w1)
      generalize rs.getD j [] = row at *
      subst hn
      clear hback hcc hcl hoki hM HO1 HG
      go_wp2_with fail
      refine (markI_any vi row _ _ base oki HM.out (by omega) (by omega)).mono ?_
      rintro e w' ⟨rfl, hr1, hg⟩
      have HN := Aside0.mk (HK.out _ hg hr1)
      clear hr1 hg HK HM
      go_wp2
      go_roundw
      case rel => exact ⟨j + 1, t + row.length, by go_num, by go_num, ⟨by omega⟩, HT1, ⟨HN.out.1⟩, ⟨HN.out.2⟩⟩
      case measure => simp [intOf]; omega
    · obtain rfl : j = rs.length := by have := HJ.out; omega
      have HO2 : Aside0 (Kd.S (Kd.slice 34 FKI) 27 wr base ok (.slice A rs.length c) (mrows m rs)) := ⟨by simpa using HO1.out⟩
      have ht := HT.out
      rw [List.take_length] at ht
      subst ht
      clear HO1
      go_wp2
      go_ret
      exact ⟨rfl, HO2.out, HG.out⟩

set_option maxHeartbeats 1000000 in
set_option maxRecDepth 100000 in
theorem heldSS_any (A : Option Addr) (c : Nat) (rs : List (List Int)) (m : Int) (w : World) (hr0 : Kd.C (Kd.slice 34 FKI) w A rs.length (mrows m rs)) (h0 : 0 ≤ m) (hm : m + (tot rs : Nat) ≤ 1000000000000) :
    Calls Try.prog 20 #[.slice A rs.length c, .int .i64 m] w fun e w' => e = .returned (.int .i64 (m + (tot rs : Nat))) ∧ w = w' := by
  have HR0 := Aside0.mk hr0
  have hmx := Kd.C_max hr0
  clear hr0
  go_enter Try.func20, Try.ntmps20
  go_wp2
  go_loop [1, 5] (fun v1 v5 => ∃ j t : Nat, v1 = .int .i64 (m + (t : Nat)) ∧ v5 = .int .i64 j ∧ Aside0 (j ≤ rs.length) ∧ Aside0 (tot (rs.take j) = t)) (fun _ v5 => rs.length - (intOf v5).toNat)
  case atStart => exact ⟨0, 0, by simp, rfl, ⟨by omega⟩, ⟨rfl⟩⟩
  case round =>
    obtain ⟨j, t, rfl, rfl, HJ, HT⟩ := hrel
    by_cases hlt : j < rs.length
    · obtain ⟨ad, A1, c1, ea, hx, hl1, hC1⟩ := at_L1 HR0.out (j : Int) (by omega) (by omega)
      subst ea
      have er : rd_L1 (mrows m rs) (j : Int) = im (m + (t : Nat)) (rs.getD j []).length := by rw [rd_L1, Int.toNat_natCast, mrows_get m hlt, HT.out]
      rw [er, im_length] at hx hC1
      obtain ⟨n, hn⟩ : ∃ n, (rs.getD j []).length = n := ⟨_, rfl⟩
      have hts := tot_split rs (j + 1)
      rw [tot_take hlt, hn, HT.out] at hts
      have HT1 := Aside0.mk (tot_take hlt)
      rw [hn, HT.out] at HT1
      rw [hn] at hx hC1
      have HC1 := Aside0.mk hC1
      clear hC1 hl1 er hn
      rw [Int.toNat_natCast] at hx
      have hneg : decide (m + (t : Int) + (n : Int) < 0) = false := decide_eq_false (by omega)
      go_wp2_with fail
      refine (heldI_any A1 c1 n (m + (t : Nat)) _ HC1.out (by omega) (by omega)).mono ?_
      rintro e w' ⟨rfl, rfl⟩
      go_wp2
      go_round
      case rel => exact ⟨j + 1, t + n, by go_num, by go_num, ⟨by omega⟩, HT1⟩
      case measure => simp [intOf]; omega
    · obtain rfl : j = rs.length := by have := HJ.out; omega
      have ht := HT.out
      rw [List.take_length] at ht
      subst ht
      go_wp2
      go_ret
      exact ⟨rfl, rfl⟩
end Go.Proofs.Ytbpjkghbkjdodaa.SBnd
