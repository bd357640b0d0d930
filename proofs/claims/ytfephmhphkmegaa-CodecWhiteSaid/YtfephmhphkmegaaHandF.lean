/- codec.Percent, codec.Quoted: what is written into a strings.Builder. -/
import Derived.Test.YtfephmhphkmegaaHandE
namespace Go.Proofs.Ytfephmhphkmegaa.Hd
open Go.RowKit Go.Maps Go.Proofs.YtfephmhphkmegaaW.PrintWords Go.Proofs.YtfephmhphkmegaaW.PrintLast Go.Proofs.YtfephmhphkmegaaW.PrintMore
attribute [local go_sem] max2_int min2_int max_two min_two
set_option linter.unusedVariables false
set_option linter.unusedSimpArgs false

def ixv (c : UInt8) : Int := Lib.indexByte [45, 46, 95, 126] c
theorem ixv_eq (c : UInt8) : decide (0 ≤ ixv c) = (c = 45 || c = 46 || c = 95 || c = 126) := by
  have := ub c (fun c => decide (decide (0 ≤ ixv c) = (c = 45 || c = 46 || c = 95 || c = 126))) (by decide +kernel)
  exact of_decide_eq_true this
theorem idx_c (c : UInt8) (w : World) : Calls Try.prog 37 #[.string ⟨#[45, 46, 95, 126]⟩, .int .u8 (c.toNat : Int)] w fun e w' => e = .returned (.int .i64 (ixv c)) ∧ w' = w := by
  have h := Try.strings_IndexByte ⟨#[45, 46, 95, 126]⟩ (c.toNat : Int) w
  rw [show ((c.toNat : Int).toNat.toUInt8) = c by simp] at h
  exact h

/-! ### Percent -/
set_option maxHeartbeats 1000000 in
theorem Percent_calls (s : ByteArray) (hs : s.size ≤ 100000000) (w : World) :
    Calls Try.prog 16 #[.string s] w fun e w' => e = .returned (.string ⟨(Pl.per (dl s)).toArray⟩) ∧ Below w.heap.size w w' := by
  go_enter Try.func16, Try.ntmps16
  go_wp2
  go_loopw [8] (fun i wr => ∃ (k : Nat) (acc : List UInt8), i = .int .i64 k ∧ k ≤ s.size ∧ Hid (acc ++ Pl.per ((dl s).drop k) = Pl.per (dl s)) ∧ acc.length ≤ 3 * k ∧ Hid (Bld wr w.heap.size acc) ∧ Hid (Below w.heap.size w wr)) (fun i _ => s.size - (intOf i).toNat)
  case atStart => exact ⟨0, [], rfl, by omega, Lib.hid rfl, by simp, Lib.hid (Bld.start w), Lib.hid ((Below.refl _ _).alloc (Nat.le_refl _) _)⟩
  case round =>
    obtain ⟨k, acc, rfl, hk, HE, hal, HI, HB⟩ := hrel
    by_cases hlt : k < s.size
    · have hlt' : (k : Int) < (s.size : Int) := by omega
      obtain ⟨c, hc⟩ : ∃ c : UInt8, s[k]'hlt = c := ⟨_, rfl⟩
      have hcn : ∀ h : k < s.size, (s[k]'h).toNat = c.toNat := fun _ => by rw [hc]
      have HD := Aside0.mk (dl_drop s k hlt)
      have HE2 : Hid ((acc ++ Pl.perc c) ++ Pl.per ((dl s).drop (k + 1)) = Pl.per (dl s)) := by
        refine Lib.hid ?_
        rw [← HE.out, HD.out, hc, Pl.per, Pl.per, List.flatMap_cons, List.append_assoc]
      have HC := Aside0.mk hc
      clear hc
      have hcl : (Pl.perc c).length ≤ 3 ∧ 1 ≤ (Pl.perc c).length := by
        unfold Pl.perc Pl.coded
        split
        · simp
        · split <;> simp
      have hal1 : acc.length + 1 ≤ 1000000000000 := by omega
      have hal3 : acc.length + (Pl.coded 37 c).length ≤ 1000000000000 := by simp [Pl.coded]; omega
      have hbl := HB.out.size
      have hcr := c.toNat_lt
      by_cases h32 : c = 32
      · subst h32
        go_wp2_with (go_at_call 22; refine (HI.out.byte 43 hal1 hbl).mono ?_; rintro e w1 ⟨rfl, hI1, hb1⟩; have HI1 := Lib.hid hI1; have HB1 := Lib.hid (HB.out.trans hb1); clear hI1)
        go_roundw
        case rel => exact ⟨k + 1, _, by go_num, by omega, HE2, by simp only [List.length_append]; omega, HI1, HB1⟩
        case measure => simp [intOf]; omega
      · have h32n : c.toNat ≠ 32 := fun e => h32 (UInt8.toNat_inj.1 e)
        have hn1 : ((c.toNat : Int) == 32) = false := by simp; omega
        have hixe := ixv_eq c
        by_cases hp : Pl.plainP c = true
        · have hpc : Pl.perc c = [c] := by unfold Pl.perc; rw [if_neg h32, if_pos hp]
          have HP := Aside0.mk hp
          rw [hpc] at HE2
          clear hp hcl
          have hix : (¬ (48 ≤ c.toNat ∧ c.toNat ≤ 57)) → (¬ (65 ≤ c.toNat ∧ c.toNat ≤ 90)) → (¬ (97 ≤ c.toNat ∧ c.toNat ≤ 122)) → 0 ≤ ixv c := by
            intro h1 h2 h3
            have := HP.out
            simp only [Pl.plainP, Bool.or_eq_true, decide_eq_true_eq, h1, h2, h3, false_or] at this
            apply of_decide_eq_true
            rw [hixe]
            simpa using this
          clear hixe
          go_wp2_with (first
            | (go_at_call 37; refine (idx_c c _).mono ?_; rintro e w9 ⟨rfl, rfl⟩)
            | (go_at_call 36; refine (coded37_c c _).mono ?_; rintro e w1 ⟨rfl, hb1⟩; have HI1 := Lib.hid (HI.out.below hb1); have HB1 := Lib.hid (HB.out.trans (hb1.mono hbl)); have hbl1 := HB1.out.size)
            | (go_at_call 20; refine (HI1.out.str (l := Pl.coded 37 c) hal3 hbl1).mono ?_; rintro e w2 ⟨v2, rfl, hI2, hb2⟩; have HI2 := Lib.hid hI2; have HB2 := Lib.hid (HB1.out.trans hb2); clear hI2)
            | (go_at_call 22; refine (HI.out.byte c hal1 hbl).mono ?_; rintro e w1 ⟨rfl, hI1, hb1⟩; have HI1 := Lib.hid hI1; have HB1 := Lib.hid (HB.out.trans hb1); clear hI1))
          all_goals first
            | (exfalso; have := hix (by omega) (by omega) (by omega); omega)
            | (go_roundw
               case rel => exact ⟨k + 1, _, by go_num, by omega, HE2, by simp only [List.length_append, List.length_singleton]; omega, HI1, HB1⟩
               case measure => simp [intOf]; omega)
        · have hpc : Pl.perc c = Pl.coded 37 c := by unfold Pl.perc; rw [if_neg h32, if_neg hp]
          rw [hpc] at HE2 hcl
          have hno : (¬ (48 ≤ c.toNat ∧ c.toNat ≤ 57)) ∧ (¬ (65 ≤ c.toNat ∧ c.toNat ≤ 90)) ∧ (¬ (97 ≤ c.toNat ∧ c.toNat ≤ 122)) ∧ ¬ 0 ≤ ixv c := by
            have h4 : ¬ 0 ≤ ixv c := by
              intro h
              rw [decide_eq_true h] at hixe
              apply hp
              simp only [Pl.plainP, Bool.or_eq_true, decide_eq_true_eq]
              have := hixe.symm
              simp at this
              rcases this with ((h | h) | h) | h <;> simp [h]
            simp only [Pl.plainP, Bool.or_eq_true, decide_eq_true_eq, not_or] at hp
            exact ⟨hp.1.1.1.1.1.1, hp.1.1.1.1.1.2, hp.1.1.1.1.2, h4⟩
          clear hp hixe
          go_wp2_with (first
            | (go_at_call 37; refine (idx_c c _).mono ?_; rintro e w9 ⟨rfl, rfl⟩)
            | (go_at_call 36; refine (coded37_c c _).mono ?_; rintro e w1 ⟨rfl, hb1⟩; have HI1 := Lib.hid (HI.out.below hb1); have HB1 := Lib.hid (HB.out.trans (hb1.mono hbl)); have hbl1 := HB1.out.size)
            | (go_at_call 20; refine (HI1.out.str (l := Pl.coded 37 c) hal3 hbl1).mono ?_; rintro e w2 ⟨v2, rfl, hI2, hb2⟩; have HI2 := Lib.hid hI2; have HB2 := Lib.hid (HB1.out.trans hb2); clear hI2)
            | (go_at_call 22; refine (HI.out.byte c hal1 hbl).mono ?_; rintro e w1 ⟨rfl, hI1, hb1⟩; have HI1 := Lib.hid hI1; have HB1 := Lib.hid (HB.out.trans hb1); clear hI1))
          all_goals first
            | (exfalso; omega)
            | (go_roundw
               case rel => exact ⟨k + 1, _, by go_num, by omega, HE2, by simp only [List.length_append]; omega, HI2, HB2⟩
               case measure => simp [intOf]; omega)
    · have hd : (dl s).drop k = [] := List.drop_eq_nil_of_le (by rw [dl_length]; omega)
      have HE' := HE.out
      rw [hd] at HE'
      have HE2 : Hid (acc = Pl.per (dl s)) := Lib.hid (by rw [← HE']; simp [Pl.per])
      have hge : ¬ (k : Int) < (s.size : Int) := by omega
      have hbl := HB.out.size
      clear hd HE'
      go_wp2_with (go_at_call 23; refine (HI.out.done hbl).mono ?_; rintro e w1 ⟨rfl, hb1⟩)
      go_ret
      exact ⟨congrArg (fun l : List UInt8 => Ending.returned (.string ⟨l.toArray⟩)) HE2.out, HB.out.trans hb1⟩
end Go.Proofs.Ytfephmhphkmegaa.Hd
