/- codec.Quoted: what is written into a strings.Builder. -/
import Derived.Test.YtfephmhphkmegaaHandF
namespace Go.Proofs.Ytfephmhphkmegaa.Hd
open Go.RowKit Go.Maps Go.Proofs.YtfephmhphkmegaaW.PrintWords Go.Proofs.YtfephmhphkmegaaW.PrintLast Go.Proofs.YtfephmhphkmegaaW.PrintMore
attribute [local go_sem] max2_int min2_int max_two min_two
set_option linter.unusedVariables false
set_option linter.unusedSimpArgs false

theorem ba_ext {a b : ByteArray} (h : dl a = dl b) : a = b := by
  cases a; cases b
  simp only [ByteArray.mk.injEq]
  exact Array.toList_inj.1 h
theorem ext_one (s : ByteArray) (k : Nat) (h : k < s.size) : s.extract k (k + 1) = ⟨[s[k]].toArray⟩ := by
  apply ba_ext
  show (s.extract k (k + 1)).data.toList = _
  rw [Lib.extract_data, show s.data.toList.drop k = (dl s).drop k from rfl, dl_drop s k h, show k + 1 - k = 1 by omega]
  rfl
set_option maxHeartbeats 8000000 in
set_option maxRecDepth 100000 in
theorem Quoted_calls (s : ByteArray) (hs : s.size ≤ 100000000) (w : World) :
    Calls Try.prog 15 #[.string s] w fun e w' => e = .returned (.string ⟨(Pl.quo (dl s) 0).toArray⟩) ∧ Below w.heap.size w w' := by
  go_enter Try.func15, Try.ntmps15
  go_wp2
  go_loopw [4, 10] (fun n i wr => ∃ (k col : Nat) (acc : List UInt8), i = .int .i64 k ∧ n = .int .i64 col ∧ k ≤ s.size ∧ col ≤ 76 ∧ Hid (acc ++ Pl.quo ((dl s).drop k) col = Pl.quo (dl s) 0) ∧ acc.length ≤ 5 * k ∧ Hid (Bld wr w.heap.size acc) ∧ Hid (Below w.heap.size w wr)) (fun _ i _ => s.size - (intOf i).toNat)
  case atStart => exact ⟨0, 0, [], rfl, rfl, by omega, by omega, Lib.hid rfl, by simp, Lib.hid (Bld.start w), Lib.hid ((Below.refl _ _).alloc (Nat.le_refl _) _)⟩
  case round =>
    obtain ⟨k, col, acc, rfl, rfl, hk, hcol, HE, hal, HI, HB⟩ := hrel
    by_cases hlt : k < s.size
    · have hlt' : (k : Int) < (s.size : Int) := by omega
      obtain ⟨c, hc⟩ : ∃ c : UInt8, s[k]'hlt = c := ⟨_, rfl⟩
      have hcn : ∀ h : k < s.size, (s[k]'h).toNat = c.toNat := fun _ => by rw [hc]
      have HD := Aside0.mk (dl_drop s k hlt)
      have HX := Aside0.mk (ext_one s k hlt)
      have HE' := HE.out
      rw [HD.out, hc, Pl.quo] at HE'
      have HE2 := Lib.hid HE'
      have HC := Aside0.mk hc
      clear hc HE'
      have hal1 : acc.length + 1 ≤ 1000000000000 := by omega
      have hbl := HB.out.size
      have hcr := c.toNat_lt
      by_cases h10 : c = 10
      · subst h10
        go_wp2_with (go_at_call 22; refine (HI.out.byte 10 hal1 hbl).mono ?_; rintro e w1 ⟨rfl, hI1, hb1⟩; have HI1 := Lib.hid hI1; have HB1 := Lib.hid (HB.out.trans hb1); clear hI1)
        go_roundw
        case rel =>
          refine ⟨k + 1, 0, acc ++ [10], by go_num, by go_num, by omega, by omega, Lib.hid ?_, by simp only [List.length_append, List.length_singleton]; omega, HI1, HB1⟩
          rw [← HE2.out]
          simp
        case measure => simp [intOf]; omega
      · have h10n : c.toNat ≠ 10 := fun e => h10 (UInt8.toNat_inj.1 e)
        have hn1 : ((c.toNat : Int) == 10) = false := by simp; omega
        have hex : s.extract k (k + 1) = ⟨[c].toArray⟩ := by rw [HX.out, HC.out]
        have hone : (⟨[c].toArray⟩ : ByteArray).size = 1 := rfl
        have hthr : (⟨(Pl.coded 61 c).toArray⟩ : ByteArray).size = 3 := rfl
        have q0 : (0 : Int) ≤ (k : Int) := by omega
        have q1 : (k : Int) ≤ (k : Int) + 1 := by omega
        have q2 : (k : Int) + 1 ≤ (s.size : Int) := by omega
        have q3 : ((k : Int) + 1).toNat = k + 1 := by omega
        obtain ⟨T, hT⟩ : ∃ T, T = (dl s).drop (k + 1) := ⟨_, rfl⟩
        rw [← hT, if_neg h10] at HE2
        have HTT := Aside0.mk hT
        obtain ⟨b, hb⟩ : ∃ b, b = Pl.isLast T := ⟨_, rfl⟩
        obtain ⟨p, hp⟩ : ∃ p, p = Pl.plainQ c b := ⟨_, rfl⟩
        have hpl := plain_c c b
        rw [← hp] at hpl
        have hform : Pl.form c T = if p = true then [c] else Pl.coded 61 c := by unfold Pl.form; rw [← hb, hp]
        rw [hform, ← hb] at HE2
        have HBB := Aside0.mk hb
        clear hT hb hp hform
        by_cases hend : k + 1 = s.size
        · have hb := HBB.out
          have hTn : T = [] := by rw [HTT.out]; exact List.drop_eq_nil_of_le (by rw [dl_length]; omega)
          rw [hTn] at hb
          obtain rfl : b = true := hb
          have q4 : ((k : Int) + 1 == (s.size : Int)) = true := by simp; omega
          have q5 : (k : Int) + 1 = (s.size : Int) := by omega
          have HQ5 := Aside0.mk q5
          have HEND := Aside0.mk hend
          clear q5 hTn hend
          cases p with
          | true =>
            simp only [if_true, if_false, Bool.false_eq_true] at HE2
            have hF : ([c]).length = 1 := rfl
            rw [hF] at HE2
            have hal6 : acc.length + ([c]).length ≤ 1000000000000 := by rw [hF]; omega
            have hal7 : acc.length + ([61, 10] : List UInt8).length ≤ 1000000000000 := by simp only [List.length_cons, List.length_nil]; omega
            have hal8 : (acc ++ [61, 10]).length + ([c]).length ≤ 1000000000000 := by rw [hF, List.length_append]; simp only [List.length_cons, List.length_nil]; omega
            clear hF
            by_cases hlo : col + 1 < 76
            · have d1 : decide (76 ≤ (col : Int) + 1) = false := decide_eq_false (by omega)
              go_wp2_with (first
                | (go_at_call 35; refine (hpl _).mono ?_; rintro e w0 ⟨rfl, nd, rfl⟩; have HI0 := Lib.hid (HI.out.below (pw_below_drewN (Below.refl _ _) nd)); have HB0 := Lib.hid (HB.out.trans (pw_below_drewN (Below.refl _ _) nd)); have hbl0 := HB0.out.size)
                | (go_at_call 20; (with_reducible refine (HI0.out.str (l := [c]) hal6 hbl0).mono ?_); rintro e w3 ⟨v3, rfl, hI3, hb3⟩; have HI3 := Lib.hid hI3; have HB3 := Lib.hid (HB0.out.trans hb3); clear hI3))
              go_roundw
              case rel =>
                refine ⟨k + 1, col + 1, acc ++ ([c]), by go_num, by go_num, by omega, by omega, Lib.hid ?_, by simp only [List.length_append, List.length_cons, List.length_nil, Pl.coded]; omega, HI3, HB3⟩
                rw [← HTT.out, ← HE2.out, if_neg (by omega)]
                simp
              case measure => simp [intOf]; omega
            · by_cases heq : col + 1 = 76
              · obtain rfl : col = 75 := by omega
                go_wp2_with (first
                  | (go_at_call 35; refine (hpl _).mono ?_; rintro e w0 ⟨rfl, nd, rfl⟩; have HI0 := Lib.hid (HI.out.below (pw_below_drewN (Below.refl _ _) nd)); have HB0 := Lib.hid (HB.out.trans (pw_below_drewN (Below.refl _ _) nd)); have hbl0 := HB0.out.size)
                  | (go_at_call 20; (with_reducible refine (HI0.out.str (l := [c]) hal6 hbl0).mono ?_); rintro e w3 ⟨v3, rfl, hI3, hb3⟩; have HI3 := Lib.hid hI3; have HB3 := Lib.hid (HB0.out.trans hb3); clear hI3))
                go_roundw
                case rel =>
                  refine ⟨k + 1, 76, acc ++ ([c]), by go_num, by go_num, by omega, by omega, Lib.hid ?_, by simp only [List.length_append, List.length_cons, List.length_nil, Pl.coded]; omega, HI3, HB3⟩
                  rw [← HTT.out, ← HE2.out, if_neg (by simp)]
                  simp
                case measure => simp [intOf]; omega
              · have d1 : decide (76 ≤ (col : Int) + 1) = true := decide_eq_true (by omega)
                have d2 : ((col : Int) + 1 == 76) = false := by simp; omega
                go_wp2_with (first
                  | (go_at_call 35; refine (hpl _).mono ?_; rintro e w0 ⟨rfl, nd, rfl⟩; have HI0 := Lib.hid (HI.out.below (pw_below_drewN (Below.refl _ _) nd)); have HB0 := Lib.hid (HB.out.trans (pw_below_drewN (Below.refl _ _) nd)); have hbl0 := HB0.out.size)
                  | (go_at_call 20; (with_reducible refine (HI0.out.str (l := [61, 10]) hal7 hbl0).mono ?_); rintro e w2 ⟨v2, rfl, hI2, hb2⟩; have HI2 := Lib.hid hI2; have HB2 := Lib.hid (HB0.out.trans hb2); have hbl2 := HB2.out.size; clear hI2)
                  | (go_at_call 20; (with_reducible refine (HI2.out.str (l := [c]) hal8 hbl2).mono ?_); rintro e w3 ⟨v3, rfl, hI3, hb3⟩; have HI3 := Lib.hid hI3; have HB3 := Lib.hid (HB2.out.trans hb3); clear hI3))
                go_roundw
                case rel =>
                  refine ⟨k + 1, 1, acc ++ [61, 10] ++ ([c]), by go_num, by go_num, by omega, by omega, Lib.hid ?_, by simp only [List.length_append, List.length_cons, List.length_nil, Pl.coded]; omega, HI3, HB3⟩
                  rw [← HTT.out, ← HE2.out, if_pos ⟨by omega, fun e => heq e.2⟩]
                  simp
                case measure => simp [intOf]; omega
          | false =>
            simp only [if_true, if_false, Bool.false_eq_true] at HE2
            have hF : (Pl.coded 61 c).length = 3 := rfl
            rw [hF] at HE2
            have hal6 : acc.length + (Pl.coded 61 c).length ≤ 1000000000000 := by rw [hF]; omega
            have hal7 : acc.length + ([61, 10] : List UInt8).length ≤ 1000000000000 := by simp only [List.length_cons, List.length_nil]; omega
            have hal8 : (acc ++ [61, 10]).length + (Pl.coded 61 c).length ≤ 1000000000000 := by rw [hF, List.length_append]; simp only [List.length_cons, List.length_nil]; omega
            clear hF
            by_cases hlo : col + 3 < 76
            · have d1 : decide (76 ≤ (col : Int) + 3) = false := decide_eq_false (by omega)
              go_wp2_with (first
                | (go_at_call 35; refine (hpl _).mono ?_; rintro e w0 ⟨rfl, nd, rfl⟩; have HI0 := Lib.hid (HI.out.below (pw_below_drewN (Below.refl _ _) nd)); have HB0 := Lib.hid (HB.out.trans (pw_below_drewN (Below.refl _ _) nd)); have hbl0 := HB0.out.size)
                | (go_at_call 36; refine (coded61_c c _).mono ?_; rintro e w1 ⟨rfl, hb1⟩; have HI1 := Lib.hid (HI0.out.below hb1); have HB1 := Lib.hid (HB0.out.trans (hb1.mono hbl0)); have hbl1 := HB1.out.size)
                | (go_at_call 20; (with_reducible refine (HI1.out.str (l := Pl.coded 61 c) hal6 hbl1).mono ?_); rintro e w3 ⟨v3, rfl, hI3, hb3⟩; have HI3 := Lib.hid hI3; have HB3 := Lib.hid (HB1.out.trans hb3); clear hI3))
              go_roundw
              case rel =>
                refine ⟨k + 1, col + 3, acc ++ (Pl.coded 61 c), by go_num, by go_num, by omega, by omega, Lib.hid ?_, by simp only [List.length_append, List.length_cons, List.length_nil, Pl.coded]; omega, HI3, HB3⟩
                rw [← HTT.out, ← HE2.out, if_neg (by omega)]
                simp
              case measure => simp [intOf]; omega
            · by_cases heq : col + 3 = 76
              · obtain rfl : col = 73 := by omega
                go_wp2_with (first
                  | (go_at_call 35; refine (hpl _).mono ?_; rintro e w0 ⟨rfl, nd, rfl⟩; have HI0 := Lib.hid (HI.out.below (pw_below_drewN (Below.refl _ _) nd)); have HB0 := Lib.hid (HB.out.trans (pw_below_drewN (Below.refl _ _) nd)); have hbl0 := HB0.out.size)
                  | (go_at_call 36; refine (coded61_c c _).mono ?_; rintro e w1 ⟨rfl, hb1⟩; have HI1 := Lib.hid (HI0.out.below hb1); have HB1 := Lib.hid (HB0.out.trans (hb1.mono hbl0)); have hbl1 := HB1.out.size)
                  | (go_at_call 20; (with_reducible refine (HI1.out.str (l := Pl.coded 61 c) hal6 hbl1).mono ?_); rintro e w3 ⟨v3, rfl, hI3, hb3⟩; have HI3 := Lib.hid hI3; have HB3 := Lib.hid (HB1.out.trans hb3); clear hI3))
                go_roundw
                case rel =>
                  refine ⟨k + 1, 76, acc ++ (Pl.coded 61 c), by go_num, by go_num, by omega, by omega, Lib.hid ?_, by simp only [List.length_append, List.length_cons, List.length_nil, Pl.coded]; omega, HI3, HB3⟩
                  rw [← HTT.out, ← HE2.out, if_neg (by simp)]
                  simp
                case measure => simp [intOf]; omega
              · have d1 : decide (76 ≤ (col : Int) + 3) = true := decide_eq_true (by omega)
                have d2 : ((col : Int) + 3 == 76) = false := by simp; omega
                go_wp2_with (first
                  | (go_at_call 35; refine (hpl _).mono ?_; rintro e w0 ⟨rfl, nd, rfl⟩; have HI0 := Lib.hid (HI.out.below (pw_below_drewN (Below.refl _ _) nd)); have HB0 := Lib.hid (HB.out.trans (pw_below_drewN (Below.refl _ _) nd)); have hbl0 := HB0.out.size)
                  | (go_at_call 36; refine (coded61_c c _).mono ?_; rintro e w1 ⟨rfl, hb1⟩; have HI1 := Lib.hid (HI0.out.below hb1); have HB1 := Lib.hid (HB0.out.trans (hb1.mono hbl0)); have hbl1 := HB1.out.size)
                  | (go_at_call 20; (with_reducible refine (HI1.out.str (l := [61, 10]) hal7 hbl1).mono ?_); rintro e w2 ⟨v2, rfl, hI2, hb2⟩; have HI2 := Lib.hid hI2; have HB2 := Lib.hid (HB1.out.trans hb2); have hbl2 := HB2.out.size; clear hI2)
                  | (go_at_call 20; (with_reducible refine (HI2.out.str (l := Pl.coded 61 c) hal8 hbl2).mono ?_); rintro e w3 ⟨v3, rfl, hI3, hb3⟩; have HI3 := Lib.hid hI3; have HB3 := Lib.hid (HB2.out.trans hb3); clear hI3))
                go_roundw
                case rel =>
                  refine ⟨k + 1, 3, acc ++ [61, 10] ++ (Pl.coded 61 c), by go_num, by go_num, by omega, by omega, Lib.hid ?_, by simp only [List.length_append, List.length_cons, List.length_nil, Pl.coded]; omega, HI3, HB3⟩
                  rw [← HTT.out, ← HE2.out, if_pos ⟨by omega, fun e => heq e.2⟩]
                  simp
                case measure => simp [intOf]; omega
        · have hk1 : k + 1 < s.size := by omega
          obtain ⟨d, hd⟩ : ∃ d : UInt8, s[k + 1]'hk1 = d := ⟨_, rfl⟩
          have hdn : ∀ h : k + 1 < s.size, (s[k + 1]'h).toNat = d.toNat := fun _ => by rw [hd]
          have hb := HBB.out
          have hTn : T = d :: (dl s).drop (k + 2) := by rw [HTT.out, dl_drop s (k + 1) hk1, hd]
          rw [hTn] at hb
          have q4 : ((k : Int) + 1 == (s.size : Int)) = false := by simp; omega
          have q5 : (0 : Int) ≤ (k : Int) + 1 := by omega
          have q6 : (k : Int) + 1 < (s.size : Int) := by omega
          clear hd hTn
          by_cases hd10 : d = 10
          · subst hd10
            obtain rfl : b = true := hb
            cases p with
            | true =>
              simp only [if_true, if_false, Bool.false_eq_true] at HE2
              have hF : ([c]).length = 1 := rfl
              rw [hF] at HE2
              have hal6 : acc.length + ([c]).length ≤ 1000000000000 := by rw [hF]; omega
              have hal7 : acc.length + ([61, 10] : List UInt8).length ≤ 1000000000000 := by simp only [List.length_cons, List.length_nil]; omega
              have hal8 : (acc ++ [61, 10]).length + ([c]).length ≤ 1000000000000 := by rw [hF, List.length_append]; simp only [List.length_cons, List.length_nil]; omega
              clear hF
              by_cases hlo : col + 1 < 76
              · have d1 : decide (76 ≤ (col : Int) + 1) = false := decide_eq_false (by omega)
                go_wp2_with (first
                  | (go_at_call 35; refine (hpl _).mono ?_; rintro e w0 ⟨rfl, nd, rfl⟩; have HI0 := Lib.hid (HI.out.below (pw_below_drewN (Below.refl _ _) nd)); have HB0 := Lib.hid (HB.out.trans (pw_below_drewN (Below.refl _ _) nd)); have hbl0 := HB0.out.size)
                  | (go_at_call 20; (with_reducible refine (HI0.out.str (l := [c]) hal6 hbl0).mono ?_); rintro e w3 ⟨v3, rfl, hI3, hb3⟩; have HI3 := Lib.hid hI3; have HB3 := Lib.hid (HB0.out.trans hb3); clear hI3))
                go_roundw
                case rel =>
                  refine ⟨k + 1, col + 1, acc ++ ([c]), by go_num, by go_num, by omega, by omega, Lib.hid ?_, by simp only [List.length_append, List.length_cons, List.length_nil, Pl.coded]; omega, HI3, HB3⟩
                  rw [← HTT.out, ← HE2.out, if_neg (by omega)]
                  simp
                case measure => simp [intOf]; omega
              · by_cases heq : col + 1 = 76
                · obtain rfl : col = 75 := by omega
                  go_wp2_with (first
                    | (go_at_call 35; refine (hpl _).mono ?_; rintro e w0 ⟨rfl, nd, rfl⟩; have HI0 := Lib.hid (HI.out.below (pw_below_drewN (Below.refl _ _) nd)); have HB0 := Lib.hid (HB.out.trans (pw_below_drewN (Below.refl _ _) nd)); have hbl0 := HB0.out.size)
                    | (go_at_call 20; (with_reducible refine (HI0.out.str (l := [c]) hal6 hbl0).mono ?_); rintro e w3 ⟨v3, rfl, hI3, hb3⟩; have HI3 := Lib.hid hI3; have HB3 := Lib.hid (HB0.out.trans hb3); clear hI3))
                  go_roundw
                  case rel =>
                    refine ⟨k + 1, 76, acc ++ ([c]), by go_num, by go_num, by omega, by omega, Lib.hid ?_, by simp only [List.length_append, List.length_cons, List.length_nil, Pl.coded]; omega, HI3, HB3⟩
                    rw [← HTT.out, ← HE2.out, if_neg (by simp)]
                    simp
                  case measure => simp [intOf]; omega
                · have d1 : decide (76 ≤ (col : Int) + 1) = true := decide_eq_true (by omega)
                  have d2 : ((col : Int) + 1 == 76) = false := by simp; omega
                  go_wp2_with (first
                    | (go_at_call 35; refine (hpl _).mono ?_; rintro e w0 ⟨rfl, nd, rfl⟩; have HI0 := Lib.hid (HI.out.below (pw_below_drewN (Below.refl _ _) nd)); have HB0 := Lib.hid (HB.out.trans (pw_below_drewN (Below.refl _ _) nd)); have hbl0 := HB0.out.size)
                    | (go_at_call 20; (with_reducible refine (HI0.out.str (l := [61, 10]) hal7 hbl0).mono ?_); rintro e w2 ⟨v2, rfl, hI2, hb2⟩; have HI2 := Lib.hid hI2; have HB2 := Lib.hid (HB0.out.trans hb2); have hbl2 := HB2.out.size; clear hI2)
                    | (go_at_call 20; (with_reducible refine (HI2.out.str (l := [c]) hal8 hbl2).mono ?_); rintro e w3 ⟨v3, rfl, hI3, hb3⟩; have HI3 := Lib.hid hI3; have HB3 := Lib.hid (HB2.out.trans hb3); clear hI3))
                  go_roundw
                  case rel =>
                    refine ⟨k + 1, 1, acc ++ [61, 10] ++ ([c]), by go_num, by go_num, by omega, by omega, Lib.hid ?_, by simp only [List.length_append, List.length_cons, List.length_nil, Pl.coded]; omega, HI3, HB3⟩
                    rw [← HTT.out, ← HE2.out, if_pos ⟨by omega, fun e => heq e.2⟩]
                    simp
                  case measure => simp [intOf]; omega
            | false =>
              simp only [if_true, if_false, Bool.false_eq_true] at HE2
              have hF : (Pl.coded 61 c).length = 3 := rfl
              rw [hF] at HE2
              have hal6 : acc.length + (Pl.coded 61 c).length ≤ 1000000000000 := by rw [hF]; omega
              have hal7 : acc.length + ([61, 10] : List UInt8).length ≤ 1000000000000 := by simp only [List.length_cons, List.length_nil]; omega
              have hal8 : (acc ++ [61, 10]).length + (Pl.coded 61 c).length ≤ 1000000000000 := by rw [hF, List.length_append]; simp only [List.length_cons, List.length_nil]; omega
              clear hF
              by_cases hlo : col + 3 < 76
              · have d1 : decide (76 ≤ (col : Int) + 3) = false := decide_eq_false (by omega)
                go_wp2_with (first
                  | (go_at_call 35; refine (hpl _).mono ?_; rintro e w0 ⟨rfl, nd, rfl⟩; have HI0 := Lib.hid (HI.out.below (pw_below_drewN (Below.refl _ _) nd)); have HB0 := Lib.hid (HB.out.trans (pw_below_drewN (Below.refl _ _) nd)); have hbl0 := HB0.out.size)
                  | (go_at_call 36; refine (coded61_c c _).mono ?_; rintro e w1 ⟨rfl, hb1⟩; have HI1 := Lib.hid (HI0.out.below hb1); have HB1 := Lib.hid (HB0.out.trans (hb1.mono hbl0)); have hbl1 := HB1.out.size)
                  | (go_at_call 20; (with_reducible refine (HI1.out.str (l := Pl.coded 61 c) hal6 hbl1).mono ?_); rintro e w3 ⟨v3, rfl, hI3, hb3⟩; have HI3 := Lib.hid hI3; have HB3 := Lib.hid (HB1.out.trans hb3); clear hI3))
                go_roundw
                case rel =>
                  refine ⟨k + 1, col + 3, acc ++ (Pl.coded 61 c), by go_num, by go_num, by omega, by omega, Lib.hid ?_, by simp only [List.length_append, List.length_cons, List.length_nil, Pl.coded]; omega, HI3, HB3⟩
                  rw [← HTT.out, ← HE2.out, if_neg (by omega)]
                  simp
                case measure => simp [intOf]; omega
              · by_cases heq : col + 3 = 76
                · obtain rfl : col = 73 := by omega
                  go_wp2_with (first
                    | (go_at_call 35; refine (hpl _).mono ?_; rintro e w0 ⟨rfl, nd, rfl⟩; have HI0 := Lib.hid (HI.out.below (pw_below_drewN (Below.refl _ _) nd)); have HB0 := Lib.hid (HB.out.trans (pw_below_drewN (Below.refl _ _) nd)); have hbl0 := HB0.out.size)
                    | (go_at_call 36; refine (coded61_c c _).mono ?_; rintro e w1 ⟨rfl, hb1⟩; have HI1 := Lib.hid (HI0.out.below hb1); have HB1 := Lib.hid (HB0.out.trans (hb1.mono hbl0)); have hbl1 := HB1.out.size)
                    | (go_at_call 20; (with_reducible refine (HI1.out.str (l := Pl.coded 61 c) hal6 hbl1).mono ?_); rintro e w3 ⟨v3, rfl, hI3, hb3⟩; have HI3 := Lib.hid hI3; have HB3 := Lib.hid (HB1.out.trans hb3); clear hI3))
                  go_roundw
                  case rel =>
                    refine ⟨k + 1, 76, acc ++ (Pl.coded 61 c), by go_num, by go_num, by omega, by omega, Lib.hid ?_, by simp only [List.length_append, List.length_cons, List.length_nil, Pl.coded]; omega, HI3, HB3⟩
                    rw [← HTT.out, ← HE2.out, if_neg (by simp)]
                    simp
                  case measure => simp [intOf]; omega
                · have d1 : decide (76 ≤ (col : Int) + 3) = true := decide_eq_true (by omega)
                  have d2 : ((col : Int) + 3 == 76) = false := by simp; omega
                  go_wp2_with (first
                    | (go_at_call 35; refine (hpl _).mono ?_; rintro e w0 ⟨rfl, nd, rfl⟩; have HI0 := Lib.hid (HI.out.below (pw_below_drewN (Below.refl _ _) nd)); have HB0 := Lib.hid (HB.out.trans (pw_below_drewN (Below.refl _ _) nd)); have hbl0 := HB0.out.size)
                    | (go_at_call 36; refine (coded61_c c _).mono ?_; rintro e w1 ⟨rfl, hb1⟩; have HI1 := Lib.hid (HI0.out.below hb1); have HB1 := Lib.hid (HB0.out.trans (hb1.mono hbl0)); have hbl1 := HB1.out.size)
                    | (go_at_call 20; (with_reducible refine (HI1.out.str (l := [61, 10]) hal7 hbl1).mono ?_); rintro e w2 ⟨v2, rfl, hI2, hb2⟩; have HI2 := Lib.hid hI2; have HB2 := Lib.hid (HB1.out.trans hb2); have hbl2 := HB2.out.size; clear hI2)
                    | (go_at_call 20; (with_reducible refine (HI2.out.str (l := Pl.coded 61 c) hal8 hbl2).mono ?_); rintro e w3 ⟨v3, rfl, hI3, hb3⟩; have HI3 := Lib.hid hI3; have HB3 := Lib.hid (HB2.out.trans hb3); clear hI3))
                  go_roundw
                  case rel =>
                    refine ⟨k + 1, 3, acc ++ [61, 10] ++ (Pl.coded 61 c), by go_num, by go_num, by omega, by omega, Lib.hid ?_, by simp only [List.length_append, List.length_cons, List.length_nil, Pl.coded]; omega, HI3, HB3⟩
                    rw [← HTT.out, ← HE2.out, if_pos ⟨by omega, fun e => heq e.2⟩]
                    simp
                  case measure => simp [intOf]; omega
          · obtain rfl : b = false := by rw [hb]; exact decide_eq_false hd10
            have hd10n : d.toNat ≠ 10 := fun e => hd10 (UInt8.toNat_inj.1 e)
            have q7 : ((d.toNat : Int) == 10) = false := by simp; omega
            clear hb
            cases p with
            | true =>
              simp only [if_true, if_false, Bool.false_eq_true] at HE2
              have hF : ([c]).length = 1 := rfl
              rw [hF] at HE2
              have hal6 : acc.length + ([c]).length ≤ 1000000000000 := by rw [hF]; omega
              have hal7 : acc.length + ([61, 10] : List UInt8).length ≤ 1000000000000 := by simp only [List.length_cons, List.length_nil]; omega
              have hal8 : (acc ++ [61, 10]).length + ([c]).length ≤ 1000000000000 := by rw [hF, List.length_append]; simp only [List.length_cons, List.length_nil]; omega
              clear hF
              by_cases hlo : col + 1 < 76
              · have d1 : decide (76 ≤ (col : Int) + 1) = false := decide_eq_false (by omega)
                go_wp2_with (first
                  | (go_at_call 35; refine (hpl _).mono ?_; rintro e w0 ⟨rfl, nd, rfl⟩; have HI0 := Lib.hid (HI.out.below (pw_below_drewN (Below.refl _ _) nd)); have HB0 := Lib.hid (HB.out.trans (pw_below_drewN (Below.refl _ _) nd)); have hbl0 := HB0.out.size)
                  | (go_at_call 20; (with_reducible refine (HI0.out.str (l := [c]) hal6 hbl0).mono ?_); rintro e w3 ⟨v3, rfl, hI3, hb3⟩; have HI3 := Lib.hid hI3; have HB3 := Lib.hid (HB0.out.trans hb3); clear hI3))
                go_roundw
                case rel =>
                  refine ⟨k + 1, col + 1, acc ++ ([c]), by go_num, by go_num, by omega, by omega, Lib.hid ?_, by simp only [List.length_append, List.length_cons, List.length_nil, Pl.coded]; omega, HI3, HB3⟩
                  rw [← HTT.out, ← HE2.out, if_neg (by omega)]
                  simp
                case measure => simp [intOf]; omega
              · have d1 : decide (76 ≤ (col : Int) + 1) = true := decide_eq_true (by omega)
                go_wp2_with (first
                  | (go_at_call 35; refine (hpl _).mono ?_; rintro e w0 ⟨rfl, nd, rfl⟩; have HI0 := Lib.hid (HI.out.below (pw_below_drewN (Below.refl _ _) nd)); have HB0 := Lib.hid (HB.out.trans (pw_below_drewN (Below.refl _ _) nd)); have hbl0 := HB0.out.size)
                  | (go_at_call 20; (with_reducible refine (HI0.out.str (l := [61, 10]) hal7 hbl0).mono ?_); rintro e w2 ⟨v2, rfl, hI2, hb2⟩; have HI2 := Lib.hid hI2; have HB2 := Lib.hid (HB0.out.trans hb2); have hbl2 := HB2.out.size; clear hI2)
                  | (go_at_call 20; (with_reducible refine (HI2.out.str (l := [c]) hal8 hbl2).mono ?_); rintro e w3 ⟨v3, rfl, hI3, hb3⟩; have HI3 := Lib.hid hI3; have HB3 := Lib.hid (HB2.out.trans hb3); clear hI3))
                go_roundw
                case rel =>
                  refine ⟨k + 1, 1, acc ++ [61, 10] ++ ([c]), by go_num, by go_num, by omega, by omega, Lib.hid ?_, by simp only [List.length_append, List.length_cons, List.length_nil, Pl.coded]; omega, HI3, HB3⟩
                  rw [← HTT.out, ← HE2.out, if_pos ⟨by omega, by simp⟩]
                  simp
                case measure => simp [intOf]; omega
            | false =>
              simp only [if_true, if_false, Bool.false_eq_true] at HE2
              have hF : (Pl.coded 61 c).length = 3 := rfl
              rw [hF] at HE2
              have hal6 : acc.length + (Pl.coded 61 c).length ≤ 1000000000000 := by rw [hF]; omega
              have hal7 : acc.length + ([61, 10] : List UInt8).length ≤ 1000000000000 := by simp only [List.length_cons, List.length_nil]; omega
              have hal8 : (acc ++ [61, 10]).length + (Pl.coded 61 c).length ≤ 1000000000000 := by rw [hF, List.length_append]; simp only [List.length_cons, List.length_nil]; omega
              clear hF
              by_cases hlo : col + 3 < 76
              · have d1 : decide (76 ≤ (col : Int) + 3) = false := decide_eq_false (by omega)
                go_wp2_with (first
                  | (go_at_call 35; refine (hpl _).mono ?_; rintro e w0 ⟨rfl, nd, rfl⟩; have HI0 := Lib.hid (HI.out.below (pw_below_drewN (Below.refl _ _) nd)); have HB0 := Lib.hid (HB.out.trans (pw_below_drewN (Below.refl _ _) nd)); have hbl0 := HB0.out.size)
                  | (go_at_call 36; refine (coded61_c c _).mono ?_; rintro e w1 ⟨rfl, hb1⟩; have HI1 := Lib.hid (HI0.out.below hb1); have HB1 := Lib.hid (HB0.out.trans (hb1.mono hbl0)); have hbl1 := HB1.out.size)
                  | (go_at_call 20; (with_reducible refine (HI1.out.str (l := Pl.coded 61 c) hal6 hbl1).mono ?_); rintro e w3 ⟨v3, rfl, hI3, hb3⟩; have HI3 := Lib.hid hI3; have HB3 := Lib.hid (HB1.out.trans hb3); clear hI3))
                go_roundw
                case rel =>
                  refine ⟨k + 1, col + 3, acc ++ (Pl.coded 61 c), by go_num, by go_num, by omega, by omega, Lib.hid ?_, by simp only [List.length_append, List.length_cons, List.length_nil, Pl.coded]; omega, HI3, HB3⟩
                  rw [← HTT.out, ← HE2.out, if_neg (by omega)]
                  simp
                case measure => simp [intOf]; omega
              · have d1 : decide (76 ≤ (col : Int) + 3) = true := decide_eq_true (by omega)
                go_wp2_with (first
                  | (go_at_call 35; refine (hpl _).mono ?_; rintro e w0 ⟨rfl, nd, rfl⟩; have HI0 := Lib.hid (HI.out.below (pw_below_drewN (Below.refl _ _) nd)); have HB0 := Lib.hid (HB.out.trans (pw_below_drewN (Below.refl _ _) nd)); have hbl0 := HB0.out.size)
                  | (go_at_call 36; refine (coded61_c c _).mono ?_; rintro e w1 ⟨rfl, hb1⟩; have HI1 := Lib.hid (HI0.out.below hb1); have HB1 := Lib.hid (HB0.out.trans (hb1.mono hbl0)); have hbl1 := HB1.out.size)
                  | (go_at_call 20; (with_reducible refine (HI1.out.str (l := [61, 10]) hal7 hbl1).mono ?_); rintro e w2 ⟨v2, rfl, hI2, hb2⟩; have HI2 := Lib.hid hI2; have HB2 := Lib.hid (HB1.out.trans hb2); have hbl2 := HB2.out.size; clear hI2)
                  | (go_at_call 20; (with_reducible refine (HI2.out.str (l := Pl.coded 61 c) hal8 hbl2).mono ?_); rintro e w3 ⟨v3, rfl, hI3, hb3⟩; have HI3 := Lib.hid hI3; have HB3 := Lib.hid (HB2.out.trans hb3); clear hI3))
                go_roundw
                case rel =>
                  refine ⟨k + 1, 3, acc ++ [61, 10] ++ (Pl.coded 61 c), by go_num, by go_num, by omega, by omega, Lib.hid ?_, by simp only [List.length_append, List.length_cons, List.length_nil, Pl.coded]; omega, HI3, HB3⟩
                  rw [← HTT.out, ← HE2.out, if_pos ⟨by omega, by simp⟩]
                  simp
                case measure => simp [intOf]; omega
    · have hd : (dl s).drop k = [] := List.drop_eq_nil_of_le (by rw [dl_length]; omega)
      have HE' := HE.out
      rw [hd] at HE'
      have HE2 : Hid (acc = Pl.quo (dl s) 0) := Lib.hid (by rw [← HE']; simp [Pl.quo])
      have hge : ¬ (k : Int) < (s.size : Int) := by omega
      have hbl := HB.out.size
      clear hd HE'
      go_wp2_with (go_at_call 23; refine (HI.out.done hbl).mono ?_; rintro e w1 ⟨rfl, hb1⟩)
      go_ret
      exact ⟨congrArg (fun l : List UInt8 => Ending.returned (.string ⟨l.toArray⟩)) HE2.out, HB.out.trans hb1⟩
end Go.Proofs.Ytfephmhphkmegaa.Hd
