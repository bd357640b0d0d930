/- How long the three texts are. -/
import Derived.Test.YtfephmhphkmegaaPlainB
namespace Go.Proofs.Ytfephmhphkmegaa.Pl
set_option linter.unusedVariables false
set_option linter.unusedSimpArgs false
theorem b64_len : ∀ s col, (b64 s col).length ≤ 5 * s.length
  | [], col => by simp [b64]
  | [a], col => by
    rw [b64]
    · simp [grp, digs, pad, padn]
    · simp
    · simp
  | [a, b], col => by
    rw [b64]
    · simp [grp, digs, pad, padn]
    · simp
    · simp
  | [a, b, c], col => by
    rw [b64]
    · simp [grp, digs, pad, padn, enc3]
    · simp
    · simp
  | a :: b :: c :: d :: t, col => by
    have i0 := b64_len (d :: t) 0
    have i1 := b64_len (d :: t) (col + 4)
    rw [b64, List.length_append]
    simp only [List.length_cons] at i0 i1 ⊢
    have : (enc3 a b c).length = 4 := rfl
    split
    · simp only [List.length_cons]; omega
    · omega
theorem quo_len : ∀ s col, (quo s col).length ≤ 5 * s.length
  | [], col => by simp [quo]
  | c :: t, col => by
    have hf := form_len c t
    have i0 := quo_len t 0
    have i1 := quo_len t (form c t).length
    have i2 := quo_len t (col + (form c t).length)
    rw [quo]
    split
    · simp only [List.length_cons]; omega
    · split
      · simp only [List.length_append, List.length_cons]; omega
      · simp only [List.length_append, List.length_cons]; omega
theorem per_len : ∀ s, (per s).length ≤ 3 * s.length
  | [] => by simp [per]
  | c :: t => by
    have ih := per_len t
    have hc : (perc c).length ≤ 3 := by
      unfold perc coded
      split
      · simp
      · split <;> simp
    rw [per, List.flatMap_cons, List.length_append]
    rw [per] at ih
    simp only [List.length_cons]
    omega
theorem b64_mem : ∀ s col, ∀ c ∈ b64 s col, c = 10 ∨ c = 61 ∨ ∃ v, v < 64 ∧ c = dig64 v
  | [], col, c, h => by simp [b64] at h
  | [a], col, c, h => by
    rw [b64] at h
    · rw [List.mem_append, grp, List.mem_append] at h
      rcases h with (h | h) | h
      · exact .inr (.inr (mem_digs _ c h))
      · exact .inr (.inl (List.eq_of_mem_replicate h))
      · exact .inl (List.mem_singleton.1 h)
    · simp
    · simp
  | [a, b], col, c, h => by
    rw [b64] at h
    · rw [List.mem_append, grp, List.mem_append] at h
      rcases h with (h | h) | h
      · exact .inr (.inr (mem_digs _ c h))
      · exact .inr (.inl (List.eq_of_mem_replicate h))
      · exact .inl (List.mem_singleton.1 h)
    · simp
    · simp
  | [a, b, d], col, c, h => by
    rw [b64] at h
    · rw [List.mem_append, grp, List.mem_append] at h
      rcases h with (h | h) | h
      · exact .inr (.inr (mem_digs _ c h))
      · exact .inr (.inl (List.eq_of_mem_replicate h))
      · exact .inl (List.mem_singleton.1 h)
    · simp
    · simp
  | a :: b :: d :: e :: t, col, c, h => by
    have i0 := b64_mem (e :: t) 0
    have i1 := b64_mem (e :: t) (col + 4)
    rw [b64, List.mem_append] at h
    rcases h with h | h
    · exact .inr (.inr (mem_digs [a, b, d] c (by simpa [digs] using h)))
    · split at h
      · rcases List.mem_cons.1 h with h | h
        · exact .inl h
        · exact i0 c h
      · exact i1 c h
theorem b64_no13 (s : List UInt8) (col : Nat) : ∀ c ∈ b64 s col, c ≠ 13 := by
  intro c h
  rcases b64_mem s col c h with rfl | rfl | ⟨v, hv, rfl⟩
  · decide
  · decide
  · have := wh_dig v hv
    intro e
    rw [e] at this
    exact absurd this (by decide)
end Go.Proofs.Ytfephmhphkmegaa.Pl
