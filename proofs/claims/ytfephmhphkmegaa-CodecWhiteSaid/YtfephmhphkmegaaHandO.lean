/- CodecWhite: the walk. -/
import Derived.Test.YtfephmhphkmegaaHandN
namespace Go.Proofs.Ytfephmhphkmegaa.Hd
open Go.RowKit Go.Maps Go.Proofs.YtfephmhphkmegaaW.PrintWords Go.Proofs.YtfephmhphkmegaaW.PrintLast Go.Proofs.YtfephmhphkmegaaW.PrintMore
open Go.Proofs.Ytfephmhphkmegaa.PA
set_option linter.unusedVariables false
set_option linter.unusedSimpArgs false
theorem dl_app (a b : ByteArray) : dl (a ++ b) = dl a ++ dl b := by
  show (a ++ b).data.toList = _
  rw [ByteArray.data_append, Array.toList_append]
theorem oth (c : UInt8) (h : 123 ≤ c.toNat ∨ (91 ≤ c.toNat ∧ c.toNat ≤ 96) ∨ (58 ≤ c.toNat ∧ c.toNat ≤ 64 ∧ c.toNat ≠ 61) ∨ (c.toNat < 48 ∧ c.toNat ≠ 43 ∧ c.toNat ≠ 47 ∧ Pl.wh c = false)) : Pl.wh c = false ∧ Pl.val64 c = none ∧ c ≠ 61 := by
  have := ub c (fun c => decide ((123 ≤ c.toNat ∨ (91 ≤ c.toNat ∧ c.toNat ≤ 96) ∨ (58 ≤ c.toNat ∧ c.toNat ≤ 64 ∧ c.toNat ≠ 61) ∨ (c.toNat < 48 ∧ c.toNat ≠ 43 ∧ c.toNat ≠ 47 ∧ Pl.wh c = false)) → (Pl.wh c = false ∧ Pl.val64 c = none ∧ c ≠ 61))) (by decide +kernel)
  exact of_decide_eq_true this h
theorem other_c (s t : ByteArray) (c : UInt8) (B : List UInt8) (HT : dl t = Pl.b64 (dl s) 0) (HB : (dl t).filter (fun c => decide (c ≠ 61)) = B) (hsz : (Pure.mk B ++ Pure.mk [c] ++ t).size ≤ 100000000)
    (hc : 123 ≤ c.toNat ∨ (91 ≤ c.toNat ∧ c.toNat ≤ 96) ∨ (58 ≤ c.toNat ∧ c.toNat ≤ 64 ∧ c.toNat ≠ 61) ∨ (c.toNat < 48 ∧ c.toNat ≠ 43 ∧ c.toNat ≠ 47 ∧ Pl.wh c = false)) (W : World) :
    Calls Try.prog 11 #[.string (Pure.mk B ++ Pure.mk [c] ++ t)] W fun e w' => e = .returned (.tuple #[.string s, .bool false]) ∧ Below W.heap.size W w' := by
  obtain ⟨o1, o2, o3⟩ := oth c hc
  have e1 : dl (Pure.mk B ++ Pure.mk [c] ++ t) = (Pl.b64 (dl s) 0).filter (fun c => decide (c ≠ 61)) ++ c :: dl t := by
    rw [dl_app, dl_app, Pure.dl_mk, Pure.dl_mk, List.append_assoc, List.singleton_append, ← HB]
    rw [← HT]
  have e2 := Pl.other64 (dl s) c o1 o2 o3 (dl t)
  rw [← e1] at e2
  have h9 := Unbase64_calls (Pure.mk B ++ Pure.mk [c] ++ t) hsz W
  rw [e2] at h9
  have e3 : (⟨(dl s).toArray⟩ : ByteArray) = s := Pure.mk_dl s
  rw [e3] at h9
  exact h9
theorem flat_len (u : ByteArray) : ∀ l : List UInt8, (l.flatMap (fun c => dl u ++ [c])).length = l.length * (u.size + 1)
  | [] => by simp
  | a :: l => by
    rw [List.flatMap_cons, List.length_append, flat_len u l, List.length_append, dl_length, List.length_singleton, List.length_cons, Nat.succ_mul]
    omega
set_option maxHeartbeats 4000000 in
set_option maxRecDepth 100000 in
theorem CodecWhite_calls (s u : ByteArray) (c : UInt8) (w : World) :
    Calls Try.prog 3 #[.string s, .string u, .int .u8 (c.toNat : Int)] w fun e w' => e = .returned (.bool true) ∧ Below w.heap.size w w' := by
  have hsm := fun W => missivelaw07_small.calls true W Pure.small_true
  by_cases h1 : (500 : Int) < (s.size : Int)
  · go_enter Try.func3, Try.ntmps3
    go_wp2_with (go_at_call 8; refine (hsm _).mono ?_; rintro e w1 ⟨rfl, hB1⟩; have HB1 := Lib.hid hB1; clear hB1)
    go_ret
    exact ⟨rfl, HB1.out⟩
  by_cases h2 : (10 : Int) < (u.size : Int)
  · go_enter Try.func3, Try.ntmps3
    go_wp2_with (go_at_call 8; refine (hsm _).mono ?_; rintro e w1 ⟨rfl, hB1⟩; have HB1 := Lib.hid hB1; clear hB1)
    go_ret
    exact ⟨rfl, HB1.out⟩
  obtain ⟨tr, htr, htc⟩ := Trim_c u (by omega)
  by_cases h3 : tr = ⟨#[]⟩
  case neg =>
    have h3b : tr.toList.isEmpty = false := by
      rw [ByteArray.toList_eq]
      cases hd : tr.data.toList with
      | nil => exact absurd (ba_ext (by show tr.data.toList = _; rw [hd])) h3
      | cons _ _ => rfl
    go_enter Try.func3, Try.ntmps3
    go_wp2_with (first
      | (go_at_call 8; refine (hsm _).mono ?_; rintro e w1 ⟨rfl, hB1⟩; have HB1 := Lib.hid hB1; clear hB1)
      | (go_at_call 9; refine (htc _).mono ?_; rintro e w2 ⟨rfl, hd2⟩; have HB2 := Lib.hid (HB1.out.trans (hd2.below.mono HB1.out.size)); clear hd2))
    go_ret
    exact ⟨rfl, HB2.out⟩
  have Hwh := Lib.hid (htr h3)
  subst h3
  clear htr
  obtain ⟨t, ht⟩ : ∃ t : ByteArray, t = ⟨(Pl.b64 (dl s) 0).toArray⟩ := ⟨_, rfl⟩
  have hb64 := Base64_calls s (by omega)
  rw [← ht] at hb64
  have HT := Lib.hid (show dl t = Pl.b64 (dl s) 0 by rw [ht])
  have htl : t.size ≤ 2500 := by
    have h9 := Pl.b64_len (dl s) 0
    rw [← HT.out, dl_length, dl_length] at h9
    omega
  clear ht
  go_enter Try.func3, Try.ntmps3
  go_wp2_with (first
      | (go_at_call 8; refine (hsm _).mono ?_; rintro e w1 ⟨rfl, hB1⟩; have HB1 := Lib.hid hB1; clear hB1)
      | (go_at_call 9; refine (htc _).mono ?_; rintro e w2 ⟨rfl, hd2⟩; have HB2 := Lib.hid (HB1.out.trans (hd2.below.mono HB1.out.size)); clear hd2)
      | (go_at_call 10; refine (hb64 _).mono ?_; rintro e w3 ⟨rfl, hB3⟩; have HB3 := Lib.hid (HB2.out.trans (hB3.mono HB2.out.size)); clear hB3))
  go_loopw [9, 10, 11] (fun va vb i wr => ∃ (k : Nat), i = .int .i64 k ∧ k ≤ t.size ∧ Hid (Two w wr va (((dl t).take k).flatMap (fun c => dl u ++ [c])) vb (((dl t).take k).filter (fun c => decide (c ≠ 61))))) (fun _ _ i _ => t.size - (intOf i).toNat)
  case atStart => exact ⟨0, rfl, by omega, Lib.hid (by simp only [List.take_zero, List.flatMap_nil, List.filter_nil]; exact ⟨World.ownsRow_nil _ _ _ _, World.ownsRow_nil _ _ _ _, ne_nil _, HB3.out⟩)⟩
  case round =>
    obtain ⟨k, rfl, hk, H2⟩ := hrel
    by_cases hlt : k < t.size
    · have hlt' : (k : Int) < (t.size : Int) := by omega
      obtain ⟨d, hd⟩ : ∃ d : UInt8, t[k]'hlt = d := ⟨_, rfl⟩
      have hdn : ∀ h : k < t.size, (t[k]'h).toNat = d.toNat := fun _ => by rw [hd]
      have hsplit : (dl t).take (k + 1) = (dl t).take k ++ [d] := by
        rw [List.take_add_one, dl_at t k hlt, hd]
        rfl
      have hA : Hid (((dl t).take (k + 1)).flatMap (fun c => dl u ++ [c]) = ((dl t).take k).flatMap (fun c => dl u ++ [c]) ++ dl u ++ [d]) := Lib.hid (by
        rw [hsplit, List.flatMap_append, List.append_assoc]
        simp)
      have hlk := flat_len u ((dl t).take k)
      rw [List.length_take, dl_length] at hlk
      have hlk0 : min k t.size * (u.size + 1) ≤ 2500 * 11 := Nat.mul_le_mul (by omega) (by omega)
      have hlu := dl_length u
      have hlb : (((dl t).take k).filter (fun c => decide (c ≠ 61))).length + 1 ≤ 1000000000000 := by
        have := List.length_filter_le (fun c : UInt8 => decide (c ≠ 61)) ((dl t).take k)
        rw [List.length_take, dl_length] at this
        omega
      have hlk1 : (((dl t).take k).flatMap (fun c => dl u ++ [c])).length + u.size ≤ 1000000000000 := by omega
      have hlk2 : (((dl t).take k).flatMap (fun c => dl u ++ [c]) ++ dl u).length + 1 ≤ 1000000000000 := by rw [List.length_append]; omega
      clear hlk hlk0 hlu
      by_cases h61 : d = 61
      · have hB : Hid (((dl t).take (k + 1)).filter (fun c => decide (c ≠ 61)) = ((dl t).take k).filter (fun c => decide (c ≠ 61))) := Lib.hid (by
          rw [hsplit, List.filter_append, h61]
          simp)
        have hn61 : ((d.toNat : Int) != 61) = false := by rw [h61]; decide
        have hn61b : ((d.toNat : Int) == 61) = true := by rw [h61]; decide
        clear hsplit hd h61
        go_wp2
        go_region_held3 (fun _ => True) (trivial) (first
          | (refine step_three_app (w0 := w) (by rfl) (.tmp 43) (.tmp 47) (by rfl) (by rfl) (by rfl) (by first | exact h4.lit d | exact (h4.below (by (repeat (first | apply pw_below_drewN | apply below_drew1)); exact Below.refl _ _)).lit d | exact (h4.lit d).below (by (repeat (first | apply pw_below_drewN | apply below_drew1)); exact Below.refl _ _) | exact h5 | exact h5.below (by (repeat (first | apply pw_below_drewN | apply below_drew1)); exact Below.refl _ _)) hlk2 ?_; intro v6 w6 h6)
          | (refine step_three_str (w0 := w) (by rfl) (.tmp 41) (.tmp 42) (by rfl) u (by rfl) (by rfl) ((H2.out.lit d).below (by (repeat (first | apply pw_below_drewN | apply below_drew1)); exact Below.refl _ _)) hlk1 ?_; intro v5 w5 h5)
          | (refine step_three_str (w0 := w) (by rfl) (.tmp 41) (.tmp 42) (by rfl) u (by rfl) (by rfl) ((H2.out.below (by (repeat (first | apply pw_below_drewN | apply below_drew1)); exact Below.refl _ _)).lit d) hlk1 ?_; intro v5 w5 h5)
          | (refine step_two_str (w0 := w) (by rfl) (.tmp 41) (.tmp 42) (by rfl) u (by rfl) (by rfl) (H2.out.below (by (repeat (first | apply pw_below_drewN | apply below_drew1)); exact Below.refl _ _)) hlk1 ?_; intro v4 w4 h4))
        all_goals
          go_wp2
          go_roundw
          case rel => exact ⟨k + 1, by go_num, by omega, Lib.hid (by rw [hA.out, hB.out]; exact h6)⟩
          case measure => simp [intOf]; omega
      · have hB : Hid (((dl t).take (k + 1)).filter (fun c => decide (c ≠ 61)) = ((dl t).take k).filter (fun c => decide (c ≠ 61)) ++ [d]) := Lib.hid (by
          rw [hsplit, List.filter_append]
          simp [h61])
        have hx : d.toNat ≠ 61 := fun e => h61 (UInt8.toNat_inj.1 e)
        have hn61 : ((d.toNat : Int) != 61) = true := by simp; omega
        have hn61b : ((d.toNat : Int) == 61) = false := by simp; omega
        clear hsplit hd h61
        go_wp2
        go_region_held3 (fun _ => True) (trivial) (first
          | (refine step_three_app (w0 := w) (by rfl) (.tmp 43) (.tmp 47) (by rfl) (by rfl) (by rfl) (by first | exact h4.lit d | exact (h4.below (by (repeat (first | apply pw_below_drewN | apply below_drew1)); exact Below.refl _ _)).lit d | exact (h4.lit d).below (by (repeat (first | apply pw_below_drewN | apply below_drew1)); exact Below.refl _ _) | exact h5 | exact h5.below (by (repeat (first | apply pw_below_drewN | apply below_drew1)); exact Below.refl _ _)) hlk2 ?_; intro v6 w6 h6)
          | (refine step_three_str (w0 := w) (by rfl) (.tmp 41) (.tmp 42) (by rfl) u (by rfl) (by rfl) ((H2.out.lit d).below (by (repeat (first | apply pw_below_drewN | apply below_drew1)); exact Below.refl _ _)) hlk1 ?_; intro v5 w5 h5)
          | (refine step_three_str (w0 := w) (by rfl) (.tmp 41) (.tmp 42) (by rfl) u (by rfl) (by rfl) ((H2.out.below (by (repeat (first | apply pw_below_drewN | apply below_drew1)); exact Below.refl _ _)).lit d) hlk1 ?_; intro v5 w5 h5)
          | (refine step_two_str (w0 := w) (by rfl) (.tmp 41) (.tmp 42) (by rfl) u (by rfl) (by rfl) (H2.out.below (by (repeat (first | apply pw_below_drewN | apply below_drew1)); exact Below.refl _ _)) hlk1 ?_; intro v4 w4 h4))
        all_goals
          go_wp2_with (at_builtin; (with_reducible apply wp_three_app (w0 := w) (la := ((dl t).take k).filter (fun c => decide (c ≠ 61))) (lb := ((dl t).take k).flatMap (fun c => dl u ++ [c]) ++ dl u ++ [d]) (vb := v6) (va := u10) (g := w6.heap.size) (c := d)); (case hgd => rfl); (case ho => rfl); (case hs => rfl); (case hx => rfl); (case h2 => exact h6.swap.lit d); (case hl => exact hlb); intro v8 w8 h8)
          go_roundw
          case rel => exact ⟨k + 1, by go_num, by omega, Lib.hid (by rw [hA.out, hB.out]; exact h8.swap)⟩
          case measure => simp [intOf]; omega
    · have hk' : k = t.size := by omega
      subst hk'
      have hge : ¬ (t.size : Int) < (t.size : Int) := by omega
      have H2' := H2.out
      rw [show (dl t).take t.size = dl t from List.take_of_length_le (by rw [dl_length]; omega)] at H2'
      have hw1 := Pl.white64 (dl s) (dl u) Hwh.out
      have hw2 := Pl.bare_white (dl s)
      rw [← HT.out] at hw1 hw2
      have hfl := flat_len u (dl t)
      have hfl0 : (dl t).length * (u.size + 1) ≤ 2500 * 11 := Nat.mul_le_mul (by rw [dl_length]; omega) (by omega)
      have hfb := List.length_filter_le (fun c : UInt8 => decide (c ≠ 61)) (dl t)
      rw [dl_length] at hfb
      obtain ⟨A, hAe⟩ : ∃ A, (dl t).flatMap (fun c => dl u ++ [c]) = A := ⟨_, rfl⟩
      obtain ⟨B, hBe⟩ : ∃ B, (dl t).filter (fun c => decide (c ≠ 61)) = B := ⟨_, rfl⟩
      rw [hAe] at H2' hw1 hfl
      rw [hBe] at H2' hw2 hfb
      have hsz1 : (Pure.mk A ++ u).size ≤ 100000000 := by rw [← dl_length, dl_app, Pure.dl_mk, List.length_append, dl_length]; omega
      have hsz2 : (Pure.mk B).size ≤ 100000000 := by rw [Pure.size_mk]; omega
      have hU1 := Unbase64_calls (Pure.mk A ++ u) hsz1
      rw [dl_app, Pure.dl_mk, hw1, show (⟨(dl s).toArray⟩ : ByteArray) = s from Pure.mk_dl s] at hU1
      have hU2 := Unbase64_calls (Pure.mk B) hsz2
      rw [Pure.dl_mk, hw2, show (⟨(dl s).toArray⟩ : ByteArray) = s from Pure.mk_dl s, dl_length] at hU2
      have hov : ¬ (9223372036854775807 < (Pure.mk A).size + u.size) := by rw [Pure.size_mk]; omega
      have hov2 : ¬ (9223372036854775807 < (Pure.mk B).size + (Pure.mk [c]).size) := by rw [Pure.size_mk, Pure.size_mk, List.length_singleton]; omega
      have hov3 : ¬ (9223372036854775807 < (Pure.mk B ++ Pure.mk [c]).size + t.size) := by rw [← dl_length (Pure.mk B ++ Pure.mk [c]), dl_app, Pure.dl_mk, Pure.dl_mk, List.length_append, List.length_singleton]; omega
      have hsz3 : (Pure.mk B ++ Pure.mk [c] ++ t).size ≤ 100000000 := by rw [← dl_length (Pure.mk B ++ Pure.mk [c] ++ t), dl_app, dl_app, Pure.dl_mk, Pure.dl_mk, List.length_append, List.length_append, List.length_singleton, dl_length]; omega
      have HX := Lib.hid H2'
      have HBe := Lib.hid hBe
      clear H2 H2' hw1 hw2 hfl hfl0 hAe hBe hge
      have hcv1 : (convert 24 9 u9).run Try.prog wr = .ok (.string (Pure.mk A)) wr := HX.out.a.string
      have hq3 : ((s.size : Int) % 3 == 0) = decide (s.size % 3 = 0) := by rw [Bool.eq_iff_iff]; simp; omega
      have hU3 := other_c s t c B HT.out HBe.out hsz3
      have hlit : ∀ W : World, (convert 24 9 (.slice (some ⟨W.heap.size, 0, none⟩) 1 1)).run Try.prog (W.alloc (.cells #[.int .u8 (c.toNat : Int)] 5)) = .ok (.string (Pure.mk [c])) (W.alloc (.cells #[.int .u8 (c.toNat : Int)] 5)) := fun W => (BR.lit W W.heap.size c (Nat.le_refl _)).string
      have hWh := fun W => missiveref01_White.calls _ _ W (White_eq c)
      go_wp2_with (first
        | (go_at_call 11; (with_reducible refine (hU1 _).mono ?_); rintro e w7 ⟨rfl, hb7⟩; have HX7 := Lib.hid (HX.out.below hb7); have hcv2 : (convert 24 9 u10).run Try.prog w7 = .ok (.string (Pure.mk B)) w7 := HX7.out.b.string; clear hb7)
        | (go_at_call 11; (with_reducible refine (hU2 _).mono ?_); rintro e w8 ⟨rfl, hb8⟩; have HX8 := Lib.hid (HX7.out.below hb8); have hcv3 : (convert 24 9 u10).run Try.prog w8 = .ok (.string (Pure.mk B)) w8 := HX8.out.b.string; clear hb8)
        | (go_at_call 12; refine (hWh _).mono ?_; rintro e w9 ⟨rfl, hd9⟩; have HX9 := Lib.hid (HX8.out.below hd9.below); have hcv4 : (convert 24 9 u10).run Try.prog w9 = .ok (.string (Pure.mk B)) w9 := HX9.out.b.string; clear hd9)
        | (go_at_call 11; (with_reducible refine (hU3 (by first | (left; omega) | (right; left; omega) | (right; right; left; omega) | (right; right; right; exact ⟨by omega, by omega, by omega, by first | assumption | exact (show ((((c.toNat : Int) == 61) = false ∧ ((c.toNat : Int) == 43) = false) ∧ ((c.toNat : Int) == 47) = false) ∧ Pl.wh c = false by assumption).2⟩)) _).mono ?_); rintro e w10 ⟨rfl, hb10⟩; have HB10 := Lib.hid hb10; clear hb10))
      all_goals first
        | (go_ret; exact ⟨rfl, HX8.out.low⟩)
        | (go_ret; exact ⟨rfl, HX9.out.low⟩)
        | (go_ret; exact ⟨rfl, (HX8.out.lit c).t.low.trans (HB10.out.mono (HX8.out.lit c).t.low.size)⟩)
        | (go_ret; exact ⟨rfl, (HX9.out.lit c).t.low.trans (HB10.out.mono (HX9.out.lit c).t.low.size)⟩)
end Go.Proofs.Ytfephmhphkmegaa.Hd
