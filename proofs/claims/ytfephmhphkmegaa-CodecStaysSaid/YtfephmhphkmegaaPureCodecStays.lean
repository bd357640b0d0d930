/- CodecStays: what is decoded is never longer than the text; text without the signs is decoded to itself. -/
import Derived.Test.YtfephmhphkmegaaPAx2
import Derived.Test.YtfephmhphkmegaaPureA
namespace Go.Proofs.Ytfephmhphkmegaa.Pure
open Go.RowKit Go.Proofs.Ytfephmhphkmegaa.PA Go.Proofs.YtfephmhphkmegaaW.PrintWords Go.Proofs.YtfephmhphkmegaaW.PrintLast
open Go.Proofs.Ytfephmhphkmegaa.Hd (dl dl_length toList_dl dl_drop dl_at ba_ext bt_u wr64s ub)
set_option linter.unusedVariables false
set_option linter.unusedSimpArgs false
theorem st_eq (c : UInt8) (n : Nat) (hn : n < 256) : ((c.toNat : Int) = (n : Int)) ↔ c = UInt8.ofNat n := by
  constructor
  · intro h
    apply UInt8.toNat_inj.1
    rw [UInt8.toNat_ofNat']
    omega
  · rintro rfl
    rw [UInt8.toNat_ofNat']
    omega
/-- The loop's test on a byte, as the program writes it. -/
def okS (c : UInt8) : Bool := (decide ((c.toNat : Int) ≥ 32) && decide ((c.toNat : Int) < 127)) || (c = 9) || (c = 10) || (c = 13)
theorem okS_eq (c : UInt8) : okS c = Pl.okQ c := by
  have := ub c (fun c => decide (okS c = Pl.okQ c)) (by decide +kernel)
  exact of_decide_eq_true this
section
variable (s b c : ByteArray) (good fine : Bool)
/-- What is asked at the loop's end. -/
def Fin (q : Bool) : Prop := b.toList = s.toList ∧ good = q ∧ c.toList = s.toList ∧ fine = true
theorem fin_some (q : Bool) (h : Fin s b c good fine q) : (if true = true then (if b.toList = s.toList then (if (good == q) = true then (if c.toList = s.toList then (some fine) else (some false)) else (some false)) else (some false)) else (some false)) = some true := by
  obtain ⟨h1, h2, h3, h4⟩ := h
  subst h2
  subst h4
  rw [if_pos rfl, if_pos h1, if_pos (by simp), if_pos h3]
theorem stays_next (hs : s.size ≤ 1000000) (i : Nat) (hi : i < s.size) (X : Option Bool) (hX : Pl.edge ((dl s).drop (i + 1)) = false → X = some true) :
    (if ((i + 1 : Nat) : Int) = (s.size : Int) then (some true) else (if 0 ≤ ((i + 1 : Nat) : Int) then (if ((i + 1 : Nat) : Int) < (s.size : Int) then (if (bt s ((i + 1 : Nat) : Int)) = 10 then (some true) else (if (bt s ((i + 1 : Nat) : Int)) = 13 then (some true) else X)) else (none)) else (none))) = some true := by
  by_cases e : i + 1 = s.size
  · rw [if_pos (by omega)]
  · have hlt : i + 1 < s.size := by omega
    have e10 : (((s[i + 1]'hlt).toNat : Int) = 10 ↔ s[i + 1]'hlt = 10) := st_eq _ 10 (by omega)
    have e13 : (((s[i + 1]'hlt).toNat : Int) = 13 ↔ s[i + 1]'hlt = 13) := st_eq _ 13 (by omega)
    rw [if_neg (by omega), if_pos (by omega), if_pos (by omega), bt_u s (i + 1) hlt]
    by_cases h10 : s[i + 1]'hlt = 10
    · rw [if_pos (e10.2 h10)]
    · rw [if_neg (fun h => h10 (e10.1 h))]
      by_cases h13 : s[i + 1]'hlt = 13
      · rw [if_pos (e13.2 h13)]
      · rw [if_neg (fun h => h13 (e13.1 h))]
        apply hX
        rw [dl_drop s (i + 1) hlt, Pl.edge, decide_eq_false h10, decide_eq_false h13]
        rfl
theorem stays_l0 (hs : s.size ≤ 1000000) : ∀ m k i (p : Bool), i + m = s.size → m < k → (Pl.calmQ ((dl s).drop i) = true → Fin s b c good fine (p && ((dl s).drop i).all Pl.okQ)) →
    missivelaw07_CodecStays.l0 k s true b good c fine p (i : Int) = some true
  | _, 0, _, _, _, h, _ => by omega
  | 0, k + 1, i, p, h, hk, hF => by
    rw [missivelaw07_CodecStays.l0, if_neg (by omega)]
    rw [List.drop_of_length_le (by rw [dl_length]; omega)] at hF
    have := hF rfl
    rw [List.all_nil, Bool.and_true] at this
    exact fin_some s b c good fine p this
  | m + 1, k + 1, i, p, h, hk, hF => by
    have hlt : i < s.size := by omega
    have ih := fun p => stays_l0 hs m k (i + 1) p (by omega) (by omega)
    have hb := bt_u s i hlt
    obtain ⟨d, hd⟩ : ∃ d : UInt8, s[i]'hlt = d := ⟨_, rfl⟩
    rw [hd] at hb
    rw [dl_drop s i hlt, hd, Pl.calmQ, List.all_cons] at hF
    have hw := wr64s i (by omega)
    have e61 : ((d.toNat : Int) = 61 ↔ d = 61) := st_eq d 61 (by omega)
    have e43 : ((d.toNat : Int) = 43 ↔ d = 43) := st_eq d 43 (by omega)
    have e37 : ((d.toNat : Int) = 37 ↔ d = 37) := st_eq d 37 (by omega)
    have e32 : ((d.toNat : Int) = 32 ↔ d = 32) := st_eq d 32 (by omega)
    have e9 : ((d.toNat : Int) = 9 ↔ d = 9) := st_eq d 9 (by omega)
    have e10 : ((d.toNat : Int) = 10 ↔ d = 10) := st_eq d 10 (by omega)
    have e13 : ((d.toNat : Int) = 13 ↔ d = 13) := st_eq d 13 (by omega)
    have hok := okS_eq d
    rw [missivelaw07_CodecStays.l0, if_pos (by omega), if_pos (by omega), hb, hw]
    by_cases b61 : d = 61
    · rw [if_pos (e61.2 b61)]
    rw [if_neg (fun e => b61 (e61.1 e))]
    by_cases b43 : d = 43
    · rw [if_pos (e43.2 b43)]
    rw [if_neg (fun e => b43 (e43.1 e))]
    by_cases b37 : d = 37
    · rw [if_pos (e37.2 b37)]
    rw [if_neg (fun e => b37 (e37.1 e))]
    have hgo : (Pl.bl d && Pl.edge ((dl s).drop (i + 1))) = false → missivelaw07_CodecStays.l0 k s true b good c fine (p && okS d) ((i + 1 : Nat) : Int) = some true := by
      intro hbe
      refine ih _ (fun hcalm => ?_)
      rw [hok, Bool.and_assoc]
      apply hF
      rw [hbe, hcalm, decide_eq_false b61, decide_eq_false b43, decide_eq_false b37]
      rfl
    by_cases b32 : d = 32
    · rw [if_pos (e32.2 b32)]
      refine stays_next s hs i hlt _ (fun he => ?_)
      have h := hgo (by rw [he, Bool.and_false])
      have ho : okS d = true := by rw [b32]; decide
      rw [ho, Bool.and_true] at h
      have h1 : (d.toNat : Int) ≥ 32 := by rw [b32]; decide
      have h2 : (d.toNat : Int) < 127 := by rw [b32]; decide
      cases p with
      | true => rw [if_pos rfl, if_pos h1, if_pos h2]; exact h
      | false => rw [if_neg (by simp)]; exact h
    rw [if_neg (fun e => b32 (e32.1 e))]
    by_cases b9 : d = 9
    · rw [if_pos (e9.2 b9)]
      refine stays_next s hs i hlt _ (fun he => ?_)
      have h := hgo (by rw [he, Bool.and_false])
      have ho : okS d = true := by rw [b9]; decide
      rw [ho, Bool.and_true] at h
      cases p with
      | true =>
        rw [if_pos rfl]
        split
        · split <;> exact h
        · exact h
      | false => rw [if_neg (by simp)]; exact h
    rw [if_neg (fun e => b9 (e9.1 e))]
    have hnb : Pl.bl d = false := by simp [Pl.bl, b32, b9]
    have h := hgo (by rw [hnb, Bool.false_and])
    cases p with
    | false => rw [if_neg (by simp)]; exact h
    | true =>
      rw [Bool.true_and] at h
      rw [if_pos rfl]
      have hlast : (if (d.toNat : Int) = 10 then missivelaw07_CodecStays.l0 k s true b good c fine true ((i + 1 : Nat) : Int) else missivelaw07_CodecStays.l0 k s true b good c fine ((d.toNat : Int) == 13) ((i + 1 : Nat) : Int)) = some true ∨ ((d.toNat : Int) ≥ 32 ∧ (d.toNat : Int) < 127) := by
        by_cases hin : (d.toNat : Int) ≥ 32 ∧ (d.toNat : Int) < 127
        · exact .inr hin
        · left
          have ho : okS d = (decide (d = 10) || decide (d = 13)) := by
            have : (decide ((d.toNat : Int) ≥ 32) && decide ((d.toNat : Int) < 127)) = false := by
              rw [Bool.and_eq_false_iff]
              rcases Classical.em ((d.toNat : Int) ≥ 32) with h | h
              · exact .inr (decide_eq_false (fun h2 => hin ⟨h, h2⟩))
              · exact .inl (decide_eq_false h)
            rw [okS, this, decide_eq_false b9]
            rfl
          rw [ho] at h
          by_cases b10 : d = 10
          · rw [if_pos (e10.2 b10)]
            rw [decide_eq_true b10] at h
            exact h
          · rw [if_neg (fun e => b10 (e10.1 e))]
            rw [decide_eq_false b10, Bool.false_or] at h
            have e : ((d.toNat : Int) == 13) = decide (d = 13) := by
              rw [Bool.eq_iff_iff]
              simp only [beq_iff_eq, decide_eq_true_eq]
              exact e13
            rw [e]
            exact h
      by_cases h1 : (d.toNat : Int) ≥ 32
      · rw [if_pos h1]
        by_cases h2 : (d.toNat : Int) < 127
        · rw [if_pos h2]
          have ho : okS d = true := by rw [okS, decide_eq_true h1, decide_eq_true h2]; rfl
          rw [ho] at h
          exact h
        · rw [if_neg h2]
          exact hlast.resolve_right (fun e => h2 e.2)
      · rw [if_neg h1]
        exact hlast.resolve_right (fun e => h1 e.1)
end
theorem CodecStays : missivelaw07_CodecStays.Pure := by
  intro a0 h
  refine ⟨100000, ?_⟩
  obtain ⟨k, hk⟩ : ∃ k : Nat, 100000 = k + 1 := ⟨99999, rfl⟩
  rw [hk]
  unfold missivelaw07_CodecStays.f
  rw [small_true, Option.bind_some]
  by_cases hs : (a0.size : Int) > 2000
  · rw [if_pos hs]
  · have hl := dl_length a0
    have h1 := Pl.unbase_len (dl a0)
    have h2 := Pl.unq_len (dl a0) 0
    have h3 := Pl.unper_len (dl a0) 0
    rw [if_neg hs, unbase64_eq _ (by omega), Option.bind_some, unquoted_eq _ (by omega), Option.bind_some, unpercent_eq _ (by omega), Option.bind_some]
    simp only [size_mk]
    rw [if_neg (by omega), if_neg (by omega), decide_eq_false (by omega), missivelaw07_CodecStays.j0, if_neg (by simp)]
    refine stays_l0 a0 _ _ _ _ (by omega) a0.size k 0 true (by omega) (by omega) ?_
    rw [List.drop_zero, Bool.true_and]
    intro hc
    have hq := Pl.unq_same (dl a0) hc
    have hp := Pl.unper_same (dl a0) (fun c hcm => (Pl.calm_mem (dl a0) hc c hcm).2)
    refine ⟨?_, ?_, ?_, ?_⟩
    · rw [toList_dl, toList_dl, dl_mk, hq]
    · rw [hq]
    · rw [toList_dl, toList_dl, dl_mk, hp]
    · rw [hp]
end Go.Proofs.Ytfephmhphkmegaa.Pure
