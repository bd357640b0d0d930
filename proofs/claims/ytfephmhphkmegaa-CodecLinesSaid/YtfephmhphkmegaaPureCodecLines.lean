/- CodecLines: the lines of base64 and quoted-printable have at most 76 printable bytes and end well; percent-encoding has no white bytes. -/
import Derived.Test.YtfephmhphkmegaaPAx4
import Derived.Test.YtfephmhphkmegaaPureCodecBack
namespace Go.Proofs.Ytfephmhphkmegaa.Pure
open Go.RowKit Go.Proofs.Ytfephmhphkmegaa.PA Go.Proofs.YtfephmhphkmegaaW.PrintWords Go.Proofs.YtfephmhphkmegaaW.PrintLast
open Go.Proofs.Ytfephmhphkmegaa.Hd (dl dl_length toList_dl dl_drop dl_at ba_ext bt_u wr64s ub)
set_option linter.unusedVariables false
set_option linter.unusedSimpArgs false
theorem white_ref (c : UInt8) : missiveref01_White.f (c.toNat : Int) = some (Pl.wh c) := by
  have := ub c (fun c => decide (missiveref01_White.f (c.toNat : Int) = some (Pl.wh c))) (by decide +kernel)
  exact of_decide_eq_true this
theorem u_eq (c : UInt8) (n : Nat) (hn : n < 256) : ((c.toNat : Int) = (n : Int)) ↔ c = UInt8.ofNat n := by
  constructor
  · intro h
    apply UInt8.toNat_inj.1
    rw [UInt8.toNat_ofNat']
    omega
  · rintro rfl
    rw [UInt8.toNat_ofNat']
    omega
theorem fits_l0 (s : ByteArray) (hs : s.size ≤ 1000000) (tabs : Bool) : ∀ m k i (n : Nat), i + m = s.size → 2 * m < k → n ≤ 76 → Pl.fitsL tabs ((dl s).drop i) n = true → missivelaw07_fits.l0 k s tabs (n : Int) (i : Int) = some true
  | _, 0, _, _, _, h, _, _ => by omega
  | 0, k + 1, i, n, h, _, _, _ => by rw [missivelaw07_fits.l0, if_neg (by omega)]
  | m + 1, 1, i, n, h, hk, _, _ => by omega
  | m + 1, k + 2, i, n, h, hk, hn, hf => by
    have hlt : i < s.size := by omega
    have ih0 := fits_l0 s hs tabs m (k + 1) (i + 1) 0 (by omega) (by omega) (by omega)
    have ih1 := fits_l0 s hs tabs m k (i + 1) (n + 1) (by omega) (by omega)
    rw [dl_drop s i hlt, Pl.fitsL] at hf
    have hb := bt_u s i hlt
    obtain ⟨c, hc⟩ : ∃ c : UInt8, s[i]'hlt = c := ⟨_, rfl⟩
    rw [hc] at hf hb
    have h10 : ((c.toNat : Int) = 10 ↔ c = 10) := u_eq c 10 (by omega)
    have h9 : ((c.toNat : Int) = 9 ↔ c = 9) := u_eq c 9 (by omega)
    have h32 : ((c.toNat : Int) = 32 ↔ c = 32) := u_eq c 32 (by omega)
    rw [missivelaw07_fits.l0, if_pos (by omega), if_pos (by omega), hb]
    by_cases e10 : c = 10
    · rw [if_pos e10] at hf
      rw [if_pos (h10.2 e10), wr64s i (by omega)]
      exact ih0 hf
    · rw [if_neg e10] at hf
      split at hf
      · cases hf
      rename_i hbad
      split at hf
      · cases hf
      rename_i hblk
      have hn76 : n + 1 ≤ 76 := by
        have : ¬ 76 < n + 1 := fun e => hbad (.inl e)
        omega
      have hj : missivelaw07_fits.j1 (k + 1) s tabs (wrap64 ((n : Int) + 1)) (i : Int) false = some true := by
        rw [missivelaw07_fits.j1, if_neg (by simp), if_pos (by omega), if_pos (by omega), hb, wr64s n (by omega), wr64s i (by omega)]
        have hnext : (c = 32 ∨ c = 9) → ((i + 1 : Nat) : Int) ≠ (s.size : Int) ∧ ∀ h2 : i + 1 < s.size, ¬ bt s ((i + 1 : Nat) : Int) = 10 := by
          intro hcc
          have h2 : ¬ ((dl s).drop (i + 1) = [] ∨ ((dl s).drop (i + 1)).head? = some 10) := fun e => hblk ⟨hcc, e⟩
          rw [not_or] at h2
          constructor
          · intro e
            apply h2.1
            exact List.drop_eq_nil_of_le (by rw [dl_length]; omega)
          · intro hlt2 e
            apply h2.2
            rw [dl_drop s (i + 1) hlt2, List.head?_cons]
            rw [bt_u s (i + 1) hlt2] at e
            have e2 : s[i + 1]'hlt2 = 10 := (u_eq _ 10 (by omega)).1 e
            rw [e2]
        by_cases e32 : c = 32
        · rw [if_pos (h32.2 e32)]
          obtain ⟨g1, g2⟩ := hnext (.inl e32)
          rw [if_neg g1, if_pos (by omega), if_pos (by omega), if_neg (g2 (by omega))]
          exact ih1 hn76 hf
        · rw [if_neg (fun e => e32 (h32.1 e))]
          by_cases e9 : c = 9
          · rw [if_pos (h9.2 e9)]
            obtain ⟨g1, g2⟩ := hnext (.inr e9)
            rw [if_neg g1, if_pos (by omega), if_pos (by omega), if_neg (g2 (by omega))]
            exact ih1 hn76 hf
          · rw [if_neg (fun e => e9 (h9.1 e))]
            exact ih1 hn76 hf
      rw [if_neg (fun e => e10 (h10.1 e)), if_neg (by rw [wr64s n (by omega)]; omega)]
      have hok : ¬ ((c.toNat < 32 ∨ 126 < c.toNat) ∧ ¬ (tabs = true ∧ c = 9)) := fun e => hbad (.inr e)
      by_cases l32 : (c.toNat : Int) < 32
      · rw [if_pos l32]
        have ht : tabs = true ∧ c = 9 := by
          rcases Classical.em (tabs = true ∧ c = 9) with h | h
          · exact h
          · exact absurd ⟨.inl (by omega), h⟩ hok
        rw [if_pos ht.1]
        have e9 : ((c.toNat : Int) == 9) = true := by rw [ht.2]; rfl
        rw [e9]
        exact hj
      · rw [if_neg l32]
        by_cases g126 : (c.toNat : Int) > 126
        · exfalso
          apply hok
          refine ⟨.inr (by omega), fun e => ?_⟩
          rw [e.2] at g126
          exact absurd g126 (by decide)
        · rw [if_neg g126]
          exact hj
theorem lines_l0 (x4 x5 x6 : ByteArray) (h6 : x6.size ≤ 1000000) (h4s : x4.size ≤ 1000000) (h5s : x5.size ≤ 1000000) (hink : ∀ c ∈ dl x6, 33 ≤ c.toNat ∧ c.toNat ≤ 126 ∧ Pl.wh c = false) (h4 : Pl.fitsL false (dl x4) 0 = true) (h5 : Pl.fitsL true (dl x5) 0 = true) :
    ∀ m k i, i + m = x6.size → m + 2000010 ≤ k → missivelaw07_CodecLines.l0 k true x4 x5 x6 (i : Int) = some true
  | _, 0, _, _, h => by omega
  | 0, k + 1, i, h, hk => by
    rw [missivelaw07_CodecLines.l0, if_neg (by omega), if_pos rfl]
    have e4 := fits_l0 x4 h4s false x4.size k 0 0 (by omega) (by omega) (by omega) h4
    have e5 := fits_l0 x5 h5s true x5.size k 0 0 (by omega) (by omega) (by omega) h5
    rw [show missivelaw07_fits.f k x4 false = some true from e4, show missivelaw07_fits.f k x5 true = some true from e5]
    rfl
  | m + 1, k + 1, i, h, hk => by
    have hlt : i < x6.size := by omega
    have ih := lines_l0 x4 x5 x6 h6 h4s h5s hink h4 h5 m k (i + 1) (by omega) (by omega)
    have hmem : x6[i]'hlt ∈ dl x6 := List.mem_of_getElem? (dl_at x6 i hlt)
    obtain ⟨h1, h2, h3⟩ := hink _ hmem
    rw [missivelaw07_CodecLines.l0, if_pos (by omega), if_pos (by omega), bt_u x6 i hlt, white_ref, Option.bind_some, h3, if_neg (by simp), if_neg (by omega), if_neg (by omega), wr64s i (by omega)]
    exact ih
theorem CodecLines : missivelaw07_CodecLines.Pure := by
  intro a0 h
  refine ⟨3000000, ?_⟩
  obtain ⟨k, hk⟩ : ∃ k : Nat, 3000000 = k + 1 := ⟨2999999, rfl⟩
  rw [hk]
  unfold missivelaw07_CodecLines.f
  rw [small_true, Option.bind_some]
  by_cases hs : (a0.size : Int) > 2000
  · rw [if_pos hs]
  · have hl := dl_length a0
    have h1 := Pl.b64_len (dl a0) 0
    have h2 := Pl.quo_len (dl a0) 0
    have h3 := Pl.per_len (dl a0)
    have hj : missivelaw07_CodecLines.j0 (k + 1) true (mk (Pl.b64 (dl a0) 0)) (mk (Pl.quo (dl a0) 0)) (mk (Pl.per (dl a0))) false = some true := by
      rw [missivelaw07_CodecLines.j0, if_neg (by simp)]
      refine lines_l0 _ _ _ (by rw [size_mk]; omega) (by rw [size_mk]; omega) (by rw [size_mk]; omega) ?_ ?_ ?_ (mk (Pl.per (dl a0))).size k 0 (by omega) (by rw [size_mk]; omega)
      · rw [dl_mk]; exact Pl.per_ink _
      · rw [dl_mk]; exact Pl.fits64 _ 0 ⟨by omega, rfl⟩
      · rw [dl_mk]; exact Pl.fitsQ _ 0 (.inl (by omega))
    rw [if_neg hs, base64_eq _ (by omega), Option.bind_some, quoted_eq _ (by omega), Option.bind_some, percent_eq _ (by omega), Option.bind_some]
    simp only [toList_dl, dl_mk]
    by_cases hn : dl a0 = []
    · have e : Pl.b64 (dl a0) 0 = [] := by rw [hn]; rfl
      rw [if_neg (by rw [hn]; simp [Pl.b64]), if_pos e]
      exact hj
    · have hlast := Pl.last64 (dl a0) 0 hn
      have hne : Pl.b64 (dl a0) 0 ≠ [] := by
        intro e
        rw [e] at hlast
        cases hlast
      have eB : ((Pl.b64 (dl a0) 0 == []) != (dl a0 == [])) = false := by rw [beq_eq_false_iff_ne.2 hne, beq_eq_false_iff_ne.2 hn]; rfl
      rw [if_neg (by rw [eB]; simp), if_neg hne]
      have hp : 0 < (Pl.b64 (dl a0) 0).length := List.length_pos_iff.2 hne
      have hw : wrap64 (((mk (Pl.b64 (dl a0) 0)).size : Int) - 1) = (((Pl.b64 (dl a0) 0).length - 1 : Nat) : Int) := by
        rw [size_mk]
        unfold wrap64
        omega
      rw [hw, if_pos (by omega), if_pos (by rw [size_mk]; omega)]
      have hb : bt (mk (Pl.b64 (dl a0) 0)) (((Pl.b64 (dl a0) 0).length - 1 : Nat) : Int) = 10 := by
        have hlt : (Pl.b64 (dl a0) 0).length - 1 < (mk (Pl.b64 (dl a0) 0)).size := by rw [size_mk]; omega
        rw [bt_u _ _ hlt]
        have h4 := dl_at _ _ hlt
        rw [dl_mk] at h4
        rw [List.getLast?_eq_getElem?] at hlast
        rw [hlast] at h4
        rw [← Option.some.inj h4]
        rfl
      rw [hb]
      exact hj
end Go.Proofs.Ytfephmhphkmegaa.Pure
