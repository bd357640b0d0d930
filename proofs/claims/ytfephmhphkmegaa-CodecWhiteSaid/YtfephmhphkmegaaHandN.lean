/- CodecWhite: Trim's answer. -/
import Derived.Test.YtfephmhphkmegaaHandM
namespace Go.Proofs.Ytfephmhphkmegaa.Hd
open Go.RowKit Go.Maps Go.Proofs.YtfephmhphkmegaaW.PrintWords Go.Proofs.YtfephmhphkmegaaW.PrintLast Go.Proofs.YtfephmhphkmegaaW.PrintMore
open Go.Proofs.Ytfephmhphkmegaa.PA
set_option linter.unusedVariables false
set_option linter.unusedSimpArgs false
theorem White_eq (c : UInt8) : missiveref01_White.f (c.toNat : Int) = some (Pl.wh c) := by
  have h := ub c (fun c => decide (missiveref01_White.f (c.toNat : Int) = some (Pl.wh c))) (by decide +kernel)
  simpa using h
theorem trim_l1 (s : ByteArray) (hs : s.size ≤ 1000000000) (i : Nat) (hi : i < s.size) (hw : Pl.wh s[i] = false) : ∀ n k, 0 < n → i + n ≤ s.size → n < k → ∃ r, missiveref01_Trim.l1 k s (i : Int) ((i + n : Nat) : Int) = some r ∧ 0 < r.size
  | 0, _, h, _, _ => absurd h (by omega)
  | n + 1, 0, _, _, h => absurd h (by omega)
  | n + 1, k + 1, _, hn, hk => by
    have hwr : wrap64 (((i + (n + 1) : Nat) : Int) - 1) = ((i + n : Nat) : Int) := by unfold wrap64; omega
    rw [missiveref01_Trim.l1, if_pos (by omega), hwr, if_pos (by omega), if_pos (by omega), bt_u s (i + n) (by omega), White_eq, Option.bind_some]
    by_cases h : Pl.wh (s[i + n]'(by omega)) = true
    · rw [if_pos h]
      cases n with
      | zero => simp only [Nat.add_zero] at h; rw [hw] at h; cases h
      | succ n => exact trim_l1 s hs i hi hw (n + 1) k (by omega) (by omega) (by omega)
    · rw [if_neg h, if_pos (by omega), if_pos (by omega), if_pos (by omega)]
      refine ⟨_, rfl, ?_⟩
      rw [ext_size _ _ _ (by omega)]
      omega
theorem trim_l1_end (s : ByteArray) (k : Nat) : ∃ r, missiveref01_Trim.l1 (k + 1) s (s.size : Int) (s.size : Int) = some r ∧ r.size = 0 := by
  rw [missiveref01_Trim.l1, if_neg (by omega), if_pos (by omega), if_pos (by omega), if_pos (by omega)]
  refine ⟨_, rfl, ?_⟩
  rw [ext_size _ _ _ (by omega)]
  omega
theorem trim_l0 (s : ByteArray) (hs : s.size ≤ 1000000000) : ∀ n i k, i + n = s.size → n + s.size + 3 < k → ∃ r, missiveref01_Trim.l0 k s (i : Int) = some r ∧ (r.size = 0 → ∀ c ∈ (dl s).drop i, Pl.wh c = true)
  | 0, i, k + 3, hi, hk => by
    obtain rfl : i = s.size := by omega
    rw [missiveref01_Trim.l0, if_neg (by omega), missiveref01_Trim.j1]
    obtain ⟨r, hr, h0⟩ := trim_l1_end s k
    refine ⟨r, hr, fun _ c hc => ?_⟩
    rw [List.drop_eq_nil_of_le (by rw [dl_length]; omega)] at hc
    cases hc
  | n + 1, i, k + 3, hi, hk => by
    have hlt : i < s.size := by omega
    rw [missiveref01_Trim.l0, if_pos (by omega), if_pos (by omega), bt_u s i hlt, White_eq, Option.bind_some]
    by_cases h : Pl.wh s[i] = true
    · rw [if_pos h, show wrap64 ((i : Int) + 1) = ((i + 1 : Nat) : Int) by unfold wrap64; omega]
      obtain ⟨r, hr, h0⟩ := trim_l0 s hs n (i + 1) (k + 2) (by omega) (by omega)
      refine ⟨r, hr, fun hz c hc => ?_⟩
      rw [dl_drop s i hlt] at hc
      rcases List.mem_cons.1 hc with rfl | hc
      · exact h
      · exact h0 hz c hc
    · rw [if_neg h, missiveref01_Trim.j1]
      obtain ⟨r, hr, h0⟩ := trim_l1 s hs i hlt (by simpa using h) (n + 1) (k + 1) (by omega) (by omega) (by omega)
      rw [hi] at hr
      exact ⟨r, hr, fun hz => by omega⟩
  | _, _, 0, _, h => absurd h (by omega)
  | _, _, 1, _, h => absurd h (by omega)
  | _, _, 2, _, h => absurd h (by omega)
theorem Trim_c (s : ByteArray) (hs : s.size ≤ 1000000000) : ∃ r : ByteArray, (r = ⟨#[]⟩ → ∀ c ∈ dl s, Pl.wh c = true) ∧ ∀ w, Calls Try.prog 9 #[.string s] w fun e w' => e = .returned (.string r) ∧ Drawn0 w w' := by
  obtain ⟨r, hr, h⟩ := trim_l0 s hs s.size 0 (s.size + s.size + 4) (by omega) (by omega)
  refine ⟨r, fun he => ?_, fun w => missiveref01_Trim.calls _ s r w hr⟩
  subst he
  simpa using h rfl
end Go.Proofs.Ytfephmhphkmegaa.Hd
