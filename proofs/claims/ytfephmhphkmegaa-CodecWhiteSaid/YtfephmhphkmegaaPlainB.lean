/- Quoted-printable and percent-encoding as functions on lists of bytes, and what they keep: plain Lean, with no program in sight. -/
import Derived.Test.YtfephmhphkmegaaPlainA
namespace Go.Proofs.Ytfephmhphkmegaa.Pl
set_option linter.unusedVariables false
set_option linter.unusedSimpArgs false

def hexd (v : Nat) : UInt8 := if v < 10 then UInt8.ofNat (48 + v) else UInt8.ofNat (55 + v)
def hexv (c : UInt8) : Option Nat :=
  if 48 ≤ c.toNat ∧ c.toNat ≤ 57 then some (c.toNat - 48) else if 65 ≤ c.toNat ∧ c.toNat ≤ 70 then some (c.toNat - 55)
  else if 97 ≤ c.toNat ∧ c.toNat ≤ 102 then some (c.toNat - 87) else none
theorem hexv_d : ∀ v, v < 16 → hexv (hexd v) = some v := by decide
theorem pr_hexd : ∀ v, v < 16 → 33 ≤ (hexd v).toNat ∧ (hexd v).toNat ≤ 126 ∧ wh (hexd v) = false := by decide
theorem hexv_lt (c : UInt8) (v : Nat) (h : hexv c = some v) : v < 16 := by
  unfold hexv at h
  repeat' split at h
  all_goals first | (cases h; omega) | cases h
def coded (sign c : UInt8) : List UInt8 := [sign, hexd (c.toNat / 16), hexd (c.toNat % 16)]
def bl (c : UInt8) : Bool := c = 32 || c = 9
/-- The byte that two hexadecimal digits denote. -/
def pair : List UInt8 → Option UInt8
  | a :: b :: _ => match hexv a, hexv b with
    | some x, some y => some (UInt8.ofNat (x * 16 + y))
    | _, _ => none
  | _ => none
theorem pair_coded (c : UInt8) (t : List UInt8) : pair (hexd (c.toNat / 16) :: hexd (c.toNat % 16) :: t) = some c := by
  have hc := u8 c
  rw [pair, hexv_d _ (by omega), hexv_d _ (by omega)]
  simp only [Option.some.injEq]
  exact of_eq (by omega)

/-! ### percent-encoding -/
def plainP (c : UInt8) : Bool := decide (48 ≤ c.toNat ∧ c.toNat ≤ 57) || decide (65 ≤ c.toNat ∧ c.toNat ≤ 90) || decide (97 ≤ c.toNat ∧ c.toNat ≤ 122) || c = 45 || c = 46 || c = 95 || c = 126
def perc (c : UInt8) : List UInt8 := if c = 32 then [43] else if plainP c = true then [c] else coded 37 c
def per (s : List UInt8) : List UInt8 := s.flatMap perc
/-- Decoding; the number says how many bytes are still to be passed over. -/
def unper : List UInt8 → Nat → List UInt8 × Bool
  | [], _ => ([], true)
  | _ :: t, k + 1 => unper t k
  | c :: t, 0 =>
    if c = 43 then (32 :: (unper t 0).1, (unper t 0).2)
    else if c = 37 then
      match pair t with
      | some v => (v :: (unper t 2).1, (unper t 2).2)
      | none => (c :: (unper t 0).1, false)
    else (c :: (unper t 0).1, (unper t 0).2)
theorem plainP_ne {c : UInt8} (h : plainP c = true) : c ≠ 43 ∧ c ≠ 37 := by
  constructor
  · rintro rfl
    exact absurd h (by decide)
  · rintro rfl
    exact absurd h (by decide)
theorem unper_perc (c : UInt8) (t : List UInt8) : unper (perc c ++ t) 0 = (c :: (unper t 0).1, (unper t 0).2) := by
  unfold perc
  split
  · rename_i h
    subst h
    show unper (43 :: t) 0 = _
    rw [unper, if_pos rfl]
  · split
    · rename_i h
      obtain ⟨h1, h2⟩ := plainP_ne h
      show unper (c :: t) 0 = _
      rw [unper, if_neg h1, if_neg h2]
    · show unper (37 :: hexd _ :: hexd _ :: t) 0 = _
      rw [unper, if_neg (by decide), if_pos rfl, pair_coded]
      simp only [unper]
theorem backPer : ∀ s, unper (per s) 0 = (s, true)
  | [] => rfl
  | c :: t => by
    rw [per, List.flatMap_cons, unper_perc, show t.flatMap perc = per t from rfl, backPer t]
theorem per_append (s t : List UInt8) : per (s ++ t) = per s ++ per t := List.flatMap_append
theorem plainP_ink : ∀ c : UInt8, plainP c = true → 33 ≤ c.toNat ∧ c.toNat ≤ 126 ∧ wh c = false := by
  intro c h
  have h33 : 33 ≤ c.toNat ∧ c.toNat ≤ 126 := by
    simp only [plainP, Bool.or_eq_true, decide_eq_true_eq] at h
    rcases h with (((((h | h) | h) | h) | h) | h) | h
    · omega
    · omega
    · omega
    all_goals (subst h; decide)
  refine ⟨h33.1, h33.2, ?_⟩
  have h1 : c ≠ 9 := by rintro rfl; exact absurd h33.1 (by decide)
  have h2 : c ≠ 10 := by rintro rfl; exact absurd h33.1 (by decide)
  have h3 : c ≠ 13 := by rintro rfl; exact absurd h33.1 (by decide)
  have h4 : c ≠ 32 := by rintro rfl; exact absurd h33.1 (by decide)
  simp [wh, h1, h2, h3, h4]
theorem per_ink (s : List UInt8) : ∀ c ∈ per s, 33 ≤ c.toNat ∧ c.toNat ≤ 126 ∧ wh c = false := by
  intro c hc
  obtain ⟨a, _, h⟩ := List.mem_flatMap.1 hc
  have ha := u8 a
  unfold perc at h
  split at h
  · obtain rfl := List.mem_singleton.1 h
    decide
  · split at h
    · obtain rfl := List.mem_singleton.1 h
      exact plainP_ink _ ‹_›
    · simp only [coded, List.mem_cons, List.not_mem_nil, or_false] at h
      rcases h with rfl | rfl | rfl
      · decide
      · exact pr_hexd _ (by omega)
      · exact pr_hexd _ (by omega)
theorem unper_len : ∀ s k, (unper s k).1.length ≤ s.length
  | [], k => by simp [unper]
  | c :: t, k + 1 => by
    have := unper_len t k
    rw [unper]
    simp only [List.length_cons]
    omega
  | c :: t, 0 => by
    have h0 := unper_len t 0
    have h2 := unper_len t 2
    rw [unper]
    split
    · simp only [List.length_cons]; omega
    · split
      · split <;> simp only [List.length_cons] <;> omega
      · simp only [List.length_cons]; omega
theorem unper_same : ∀ s, (∀ c ∈ s, c ≠ 43 ∧ c ≠ 37) → unper s 0 = (s, true)
  | [], _ => rfl
  | c :: t, h => by
    have ih := unper_same t (fun d hd => h d (by simp [hd]))
    obtain ⟨h1, h2⟩ := h c (by simp)
    rw [unper, if_neg h1, if_neg h2, ih]

/-! ### quoted-printable -/
def plainQ (c : UInt8) (last : Bool) : Bool := if bl c = true then !last else decide (33 ≤ c.toNat) && decide (c.toNat ≤ 126) && decide (c ≠ 61)
def isLast (t : List UInt8) : Bool := match t with
  | [] => true
  | d :: _ => decide (d = 10)
def form (c : UInt8) (t : List UInt8) : List UInt8 := if plainQ c (isLast t) = true then [c] else coded 61 c
def quo : List UInt8 → Nat → List UInt8
  | [], _ => []
  | c :: t, col =>
    if c = 10 then 10 :: quo t 0
    else if 76 ≤ col + (form c t).length ∧ ¬ (isLast t = true ∧ col + (form c t).length = 76) then 61 :: 10 :: form c t ++ quo t (form c t).length
    else form c t ++ quo t (col + (form c t).length)
def is10 (t : List UInt8) : Bool := match t with
  | [] => false
  | d :: _ => decide (d = 10)
/-- Does a line end behind blanks? -/
def ends : List UInt8 → Bool
  | [] => true
  | c :: t => if bl c = true then ends t else decide (c = 10) || (decide (c = 13) && is10 t)
/-- How many bytes a soft line end takes behind its sign. -/
def lineEnd : List UInt8 → Option Nat
  | [] => some 0
  | c :: t =>
    if bl c = true then (lineEnd t).map (· + 1)
    else if c = 10 then some 1
    else if c = 13 ∧ is10 t = true then some 2
    else none
def okQ (c : UInt8) : Bool := !(decide (c.toNat < 32) && !wh c || decide (126 < c.toNat))
def unq : List UInt8 → Nat → List UInt8 × Bool
  | [], _ => ([], true)
  | _ :: t, k + 1 => unq t k
  | c :: t, 0 =>
    if c = 61 then
      match pair t with
      | some v => (v :: (unq t 2).1, (unq t 2).2)
      | none => match lineEnd t with
        | some n => unq t n
        | none => (c :: (unq t 0).1, false)
    else if bl c = true then
      if ends t = true then unq t 0 else (c :: (unq t 0).1, (unq t 0).2)
    else (c :: (unq t 0).1, okQ c && (unq t 0).2)

theorem quo_ends : ∀ (t : List UInt8) (col : Nat), isLast t = false → ends (quo t col) = false
  | [], _, h => by simp [isLast] at h
  | d :: t, col, h => by
    have hd : d ≠ 10 := by simpa [isLast] using h
    rw [quo, if_neg hd]
    split
    · rfl
    · unfold form
      split
      · rename_i hp
        show ends (d :: quo t _) = false
        rw [ends]
        by_cases hb : bl d = true
        · rw [if_pos hb]
          refine quo_ends t _ ?_
          rw [plainQ, if_pos hb] at hp
          simpa using hp
        · rw [if_neg hb]
          have h13 : d ≠ 13 := by
            rintro rfl
            rw [plainQ, if_neg hb] at hp
            exact absurd hp (by decide)
          simp [hd, h13]
      · rfl
theorem unq_soft (t : List UInt8) : unq (61 :: 10 :: t) 0 = unq t 0 := by
  have hp : pair (10 :: t) = none := by
    cases t with
    | nil => rfl
    | cons d t =>
      rw [pair, show hexv 10 = none from by decide]
  have hl : lineEnd (10 :: t) = some 1 := by rw [lineEnd, if_neg (by decide), if_pos rfl]
  rw [unq, if_pos rfl, hp]
  simp only [hl]
  rw [unq]
theorem unq_form (c : UInt8) (t Q : List UInt8) (hc : c ≠ 10) (hQ : isLast t = false → ends Q = false) : unq (form c t ++ Q) 0 = (c :: (unq Q 0).1, (unq Q 0).2) := by
  unfold form
  split
  · rename_i hp
    show unq (c :: Q) 0 = _
    by_cases hb : bl c = true
    · rw [plainQ, if_pos hb] at hp
      have h61 : c ≠ 61 := by rintro rfl; exact absurd hb (by decide)
      rw [unq, if_neg h61, if_pos hb, hQ (by simpa using hp)]
      simp
    · rw [plainQ, if_neg hb] at hp
      simp only [Bool.and_eq_true, decide_eq_true_eq] at hp
      rw [unq, if_neg hp.2, if_neg hb]
      have : okQ c = true := by simp [okQ]; omega
      rw [this, Bool.true_and]
  · show unq (61 :: hexd _ :: hexd _ :: Q) 0 = _
    rw [unq, if_pos rfl, pair_coded]
    simp only [unq]
theorem backQ : ∀ (s : List UInt8) (col : Nat), unq (quo s col) 0 = (s, true)
  | [], _ => rfl
  | c :: t, col => by
    rw [quo]
    split
    · rename_i h
      subst h
      rw [unq, if_neg (by decide), if_neg (by decide), backQ t 0]
      rfl
    · rename_i h
      split
      · rw [List.cons_append, List.cons_append, unq_soft, unq_form c t _ h (fun hl => quo_ends t _ hl), backQ t _]
      · rw [unq_form c t _ h (fun hl => quo_ends t _ hl), backQ t _]
theorem form_len (c : UInt8) (t : List UInt8) : 1 ≤ (form c t).length ∧ (form c t).length ≤ 3 := by
  unfold form coded
  split <;> simp
theorem ink_coded (c : UInt8) : ∀ d ∈ coded 61 c, 33 ≤ d.toNat ∧ d.toNat ≤ 126 := by
  intro d h
  have hc := u8 c
  simp only [coded, List.mem_cons, List.not_mem_nil, or_false] at h
  rcases h with rfl | rfl | rfl
  · decide
  · exact ⟨(pr_hexd _ (by omega)).1, (pr_hexd _ (by omega)).2.1⟩
  · exact ⟨(pr_hexd _ (by omega)).1, (pr_hexd _ (by omega)).2.1⟩
theorem quo_head : ∀ (t : List UInt8) (col : Nat), isLast t = false → quo t col ≠ [] ∧ (quo t col).head? ≠ some 10
  | [], _, h => by simp [isLast] at h
  | d :: t, col, h => by
    have hd : d ≠ 10 := by simpa [isLast] using h
    rw [quo, if_neg hd]
    split
    · exact ⟨by simp, by simp⟩
    · unfold form
      split
      · exact ⟨by simp, by simpa using hd⟩
      · exact ⟨by simp [coded], by simp [coded]⟩
theorem fits_form (c : UInt8) (t Q : List UInt8) (n : Nat) (hn : n + (form c t).length ≤ 76) (hQ : isLast t = false → Q ≠ [] ∧ Q.head? ≠ some 10) : fitsL true (form c t ++ Q) n = fitsL true Q (n + (form c t).length) := by
  by_cases hp : plainQ c (isLast t) = true
  · have e : form c t = [c] := by rw [form, if_pos hp]
    rw [e] at hn ⊢
    show fitsL true (c :: Q) n = fitsL true Q (n + 1)
    simp only [List.length_cons, List.length_nil] at hn
    by_cases hb : bl c = true
    · have hl : isLast t = false := by rw [plainQ, if_pos hb] at hp; simpa using hp
      obtain ⟨h1, h2⟩ := hQ hl
      have hc : c = 32 ∨ c = 9 := by simpa [bl] using hb
      have h10 : c ≠ 10 := by rcases hc with rfl | rfl <;> decide
      rw [fitsL, if_neg h10, if_neg, if_neg]
      · simp [h1, h2]
      · rcases hc with rfl | rfl
        · rw [show (32 : UInt8).toNat = 32 from rfl]; omega
        · simp; omega
    · rw [plainQ, if_neg hb] at hp
      simp only [Bool.and_eq_true, decide_eq_true_eq] at hp
      exact fits_ink true c Q n hp.1 (by omega)
  · have e : form c t = coded 61 c := by rw [form, if_neg hp]
    rw [e] at hn ⊢
    exact fits_inks true Q _ n (ink_coded c) hn
theorem fitsQ : ∀ (s : List UInt8) (col : Nat), (col ≤ 75 ∨ col = 76 ∧ isLast s = true) → fitsL true (quo s col) col = true
  | [], _, _ => rfl
  | c :: t, col, hcol => by
    have hf := form_len c t
    rw [quo]
    split
    · rw [fits_nl]
      exact fitsQ t 0 (.inl (by omega))
    · rename_i hc
      have h75 : col ≤ 75 := by
        rcases hcol with h | ⟨_, h⟩
        · exact h
        · simp [isLast, hc] at h
      split
      · rw [List.cons_append, List.cons_append, fits_ink true 61 _ col (by decide) (by omega), fits_nl, fits_form c t _ 0 (by omega) (fun hl => quo_head t _ hl), Nat.zero_add]
        exact fitsQ t _ (.inl (by omega))
      · rename_i h
        rw [fits_form c t _ col (by omega) (fun hl => quo_head t _ hl)]
        refine fitsQ t _ ?_
        by_cases hl : isLast t = true
        · by_cases h76 : col + (form c t).length = 76
          · exact .inr ⟨h76, hl⟩
          · exact .inl (by
              have h9 : ¬ (76 ≤ col + (form c t).length) := fun e => h ⟨e, fun e2 => h76 e2.2⟩
              omega)
        · exact .inl (by
            have h9 : ¬ (76 ≤ col + (form c t).length) := fun e => h ⟨e, fun e2 => hl e2.1⟩
            omega)
theorem isLast_app (t u : List UInt8) : isLast (t ++ 10 :: u) = isLast t := by
  cases t with
  | nil => rfl
  | cons d t => rfl
theorem form_app (c : UInt8) (t u : List UInt8) : form c (t ++ 10 :: u) = form c t := by unfold form; rw [isLast_app]
theorem quo_parts (u : List UInt8) : ∀ (s : List UInt8) (col : Nat), quo (s ++ 10 :: u) col = quo s col ++ 10 :: quo u 0
  | [], col => by
    show quo (10 :: u) col = 10 :: quo u 0
    rw [quo, if_pos rfl]
  | c :: t, col => by
    rw [List.cons_append, quo, quo, form_app, isLast_app, quo_parts u t, quo_parts u t, quo_parts u t]
    split
    · rfl
    · split
      · simp
      · simp
theorem unq_len : ∀ s k, (unq s k).1.length ≤ s.length
  | [], k => by simp [unq]
  | c :: t, k + 1 => by
    have := unq_len t k
    rw [unq]
    simp only [List.length_cons]
    omega
  | c :: t, 0 => by
    have h0 := unq_len t 0
    have h2 := unq_len t 2
    rw [unq]
    split
    · split
      · simp only [List.length_cons]; omega
      · split
        · rename_i n _
          have := unq_len t n
          simp only [List.length_cons]
          omega
        · simp only [List.length_cons]; omega
    · split
      · split <;> simp only [List.length_cons] <;> omega
      · simp only [List.length_cons]; omega
/-- No blank in front of a line end. -/
def edge (t : List UInt8) : Bool := match t with
  | [] => true
  | d :: _ => decide (d = 10) || decide (d = 13)
def calmQ : List UInt8 → Bool
  | [] => true
  | c :: t => !(decide (c = 61) || decide (c = 43) || decide (c = 37) || bl c && edge t) && calmQ t
theorem calm_ends : ∀ (t : List UInt8), calmQ t = true → (∀ d u, t = d :: u → d ≠ 10 ∧ d ≠ 13) → t ≠ [] → ends t = false
  | [], _, _, h => absurd rfl h
  | c :: t, hc, h, _ => by
    obtain ⟨h1, h2⟩ := h c t rfl
    rw [ends]
    by_cases hb : bl c = true
    · rw [if_pos hb]
      rw [calmQ] at hc
      simp only [Bool.and_eq_true, Bool.not_eq_true'] at hc
      have hh := hc.1
      rw [hb] at hh
      cases t with
      | nil => simp [edge] at hh
      | cons d u =>
        simp [edge] at hh
        exact calm_ends (d :: u) hc.2 (fun d' u' e => by cases e; exact hh.2) (by simp)
    · rw [if_neg hb]
      simp [h1, h2]
theorem unq_same : ∀ s, calmQ s = true → unq s 0 = (s, s.all okQ)
  | [], _ => rfl
  | c :: t, h => by
    have h' := h
    rw [calmQ] at h
    simp only [Bool.and_eq_true, Bool.not_eq_true'] at h
    obtain ⟨h1, h2⟩ := h
    have ih := unq_same t h2
    have h61 : c ≠ 61 := by rintro rfl; simp at h1
    rw [unq, if_neg h61, ih]
    by_cases hb : bl c = true
    · rw [if_pos hb]
      have he : ends t = false := by
        rw [hb] at h1
        cases t with
        | nil => simp [edge] at h1
        | cons d u =>
          simp [edge] at h1
          exact calm_ends (d :: u) h2 (fun d' u' e => by cases e; exact h1.2) (by simp)
      have hok : okQ c = true := by
        have : c = 32 ∨ c = 9 := by simpa [bl] using hb
        rcases this with rfl | rfl <;> rfl
      rw [he]
      simp [hok]
    · rw [if_neg hb]
      simp
theorem calm_mem : ∀ s, calmQ s = true → ∀ c ∈ s, c ≠ 61 ∧ c ≠ 43 ∧ c ≠ 37
  | [], _, c, hc => by simp at hc
  | d :: t, h, c, hc => by
    rw [calmQ] at h
    simp only [Bool.and_eq_true, Bool.not_eq_true'] at h
    rcases List.mem_cons.1 hc with rfl | hc
    · have h1 := h.1
      simp only [Bool.or_eq_false_iff, decide_eq_false_iff_not] at h1
      exact ⟨h1.1.1.1, h1.1.1.2, h1.1.2⟩
    · exact calm_mem t h.2 c hc
end Go.Proofs.Ytfephmhphkmegaa.Pl
