/- Base64, quoted-printable and percent-encoding as functions on lists of bytes, and that each decodes to what went in: plain Lean, with no program in sight. -/
namespace Go.Proofs.Ytfephmhphkmegaa.Pl
set_option linter.unusedVariables false
set_option linter.unusedSimpArgs false

/-! ### base64 -/
def dig64 (v : Nat) : UInt8 := if v < 26 then UInt8.ofNat (65 + v) else if v < 52 then UInt8.ofNat (71 + v) else if v < 62 then UInt8.ofNat (v - 4) else if v = 62 then 43 else 47
def val64 (c : UInt8) : Option Nat :=
  if 65 ≤ c.toNat ∧ c.toNat ≤ 90 then some (c.toNat - 65) else if 97 ≤ c.toNat ∧ c.toNat ≤ 122 then some (c.toNat - 71)
  else if 48 ≤ c.toNat ∧ c.toNat ≤ 57 then some (c.toNat + 4) else if c.toNat = 43 then some 62 else if c.toNat = 47 then some 63 else none
def wh (c : UInt8) : Bool := c = 9 || c = 10 || c = 13 || c = 32
theorem val_dig : ∀ v, v < 64 → val64 (dig64 v) = some v := by decide
theorem wh_dig : ∀ v, v < 64 → wh (dig64 v) = false := by decide
theorem ne_dig : ∀ v, v < 64 → dig64 v ≠ 61 := by decide
theorem pr_dig : ∀ v, v < 64 → 33 ≤ (dig64 v).toNat ∧ (dig64 v).toNat ≤ 126 := by decide
theorem val_lt (c : UInt8) (v : Nat) (h : val64 c = some v) : v < 64 := by
  unfold val64 at h
  repeat' split at h
  all_goals first | (cases h; omega) | cases h

def enc3 (a b c : UInt8) : List UInt8 := [dig64 (a.toNat / 4), dig64 (a.toNat % 4 * 16 + b.toNat / 16), dig64 (b.toNat % 16 * 4 + c.toNat / 64), dig64 (c.toNat % 64)]
/-- The digits of bytes, without padding and lines. -/
def digs : List UInt8 → List UInt8
  | a :: b :: c :: t => enc3 a b c ++ digs t
  | [a, b] => [dig64 (a.toNat / 4), dig64 (a.toNat % 4 * 16 + b.toNat / 16), dig64 (b.toNat % 16 * 4)]
  | [a] => [dig64 (a.toNat / 4), dig64 (a.toNat % 4 * 16)]
  | [] => []
def padn (n : Nat) : Nat := if n % 3 = 0 then 0 else 3 - n % 3
def pad (s : List UInt8) : List UInt8 := List.replicate (padn s.length) 61
/-- The four characters for 1 to 3 bytes. -/
def grp (s : List UInt8) : List UInt8 := digs s ++ pad s
/-- Base64 from a column on. -/
def b64 : List UInt8 → Nat → List UInt8
  | a :: b :: c :: d :: t, col => enc3 a b c ++ (if col + 4 = 76 then 10 :: b64 (d :: t) 0 else b64 (d :: t) (col + 4))
  | [], _ => []
  | s, _ => grp s ++ [10]
/-- The decoding: what is out, the digits that are left and their number, and the rest. -/
def un64 : List UInt8 → Nat → Nat → List UInt8 × Nat × Nat × List UInt8
  | [], l, n => ([], l, n, [])
  | c :: t, l, n =>
    if wh c = true then un64 t l n
    else match val64 c with
      | none => ([], l, n, c :: t)
      | some v =>
        if n = 3 then
          (UInt8.ofNat ((l * 64 + v) / 65536) :: UInt8.ofNat ((l * 64 + v) / 256) :: UInt8.ofNat (l * 64 + v) :: (un64 t 0 0).1, (un64 t 0 0).2)
        else un64 t (l * 64 + v) (n + 1)
def unTail (l n : Nat) : List UInt8 := if n = 2 then [UInt8.ofNat (l / 16)] else if n = 3 then [UInt8.ofNat (l / 1024), UInt8.ofNat (l / 4)] else []
def missing (n : Nat) : Nat := if n = 2 then 2 else if n = 3 then 1 else 0
def strip (s : List UInt8) : List UInt8 := s.filter fun c => !wh c
def unbase (s : List UInt8) : List UInt8 × Bool :=
  ((un64 s 0 0).1 ++ unTail (un64 s 0 0).2.1 (un64 s 0 0).2.2.1, decide ((un64 s 0 0).2.2.1 ≠ 1) && decide (strip (un64 s 0 0).2.2.2 = List.replicate (missing (un64 s 0 0).2.2.1) 61))

theorem un64_white (c : UInt8) (t : List UInt8) (l n : Nat) (h : wh c = true) : un64 (c :: t) l n = un64 t l n := by rw [un64, if_pos h]
theorem un64_stop (c : UInt8) (t : List UInt8) (l n : Nat) (h : wh c = false) (h2 : val64 c = none) : un64 (c :: t) l n = ([], l, n, c :: t) := by
  rw [un64, if_neg (by simp [h]), h2]
theorem un64_digit (c : UInt8) (t : List UInt8) (l n v : Nat) (h : wh c = false) (h2 : val64 c = some v) (h3 : n ≠ 3) : un64 (c :: t) l n = un64 t (l * 64 + v) (n + 1) := by
  rw [un64, if_neg (by simp [h]), h2]
  simp only [if_neg h3]
theorem un64_four (c : UInt8) (t : List UInt8) (l v : Nat) (h : wh c = false) (h2 : val64 c = some v) :
    un64 (c :: t) l 3 = (UInt8.ofNat ((l * 64 + v) / 65536) :: UInt8.ofNat ((l * 64 + v) / 256) :: UInt8.ofNat (l * 64 + v) :: (un64 t 0 0).1, (un64 t 0 0).2) := by
  rw [un64, if_neg (by simp [h]), h2]
  simp only [if_true]
theorem un64_strip (s : List UInt8) : ∀ l n, (un64 s l n).1 = (un64 (strip s) l n).1 ∧ (un64 s l n).2.1 = (un64 (strip s) l n).2.1 ∧ (un64 s l n).2.2.1 = (un64 (strip s) l n).2.2.1 ∧
    strip (un64 s l n).2.2.2 = strip (un64 (strip s) l n).2.2.2 := by
  induction s with
  | nil => intro l n; exact ⟨rfl, rfl, rfl, rfl⟩
  | cons c t ih =>
    intro l n
    by_cases h : wh c = true
    · have e : strip (c :: t) = strip t := by simp [strip, h]
      rw [e, un64_white c t l n h]
      exact ih l n
    · have h' : wh c = false := by simpa using h
      have e : strip (c :: t) = c :: strip t := by simp [strip, h']
      rw [e]
      cases h2 : val64 c with
      | none =>
        rw [un64_stop c t l n h' h2, un64_stop c _ l n h' h2]
        refine ⟨rfl, rfl, rfl, ?_⟩
        show strip (c :: t) = strip (c :: strip t)
        simp [strip, h']
      | some v =>
        by_cases h3 : n = 3
        · subst h3
          rw [un64_four c t l v h' h2, un64_four c _ l v h' h2]
          obtain ⟨a, b, d, e⟩ := ih 0 0
          exact ⟨by simp only [a], b, d, e⟩
        · rw [un64_digit c t l n v h' h2 h3, un64_digit c _ l n v h' h2 h3]
          exact ih _ _
theorem unbase_strip (s : List UInt8) : unbase s = unbase (strip s) := by
  obtain ⟨a, b, c, d⟩ := un64_strip s 0 0
  unfold unbase
  rw [a, b, c, d]

def full : List UInt8 → List UInt8
  | a :: b :: c :: t => a :: b :: c :: full t
  | _ => []
def left : List UInt8 → Nat
  | _ :: _ :: _ :: t => left t
  | [a, b] => (a.toNat / 4 * 64 + (a.toNat % 4 * 16 + b.toNat / 16)) * 64 + b.toNat % 16 * 4
  | [a] => a.toNat / 4 * 64 + a.toNat % 4 * 16
  | [] => 0
def cnt (n : Nat) : Nat := if n % 3 = 0 then 0 else n % 3 + 1
def Stop : List UInt8 → Prop
  | [] => True
  | c :: _ => wh c = false ∧ val64 c = none
theorem un64_at (R : List UInt8) (h : Stop R) (l n : Nat) : un64 R l n = ([], l, n, R) := by
  cases R with
  | nil => rfl
  | cons c t => exact un64_stop c t l n h.1 h.2
theorem u8 (a : UInt8) : a.toNat < 256 := a.toNat_lt
theorem of_eq {n : Nat} {a : UInt8} (h : n % 256 = a.toNat) : UInt8.ofNat n = a := by
  apply UInt8.toNat_inj.1
  rw [UInt8.toNat_ofNat']
  exact h
theorem un_digs (R : List UInt8) (h : Stop R) : ∀ s, un64 (digs s ++ R) 0 0 = (full s, left s, cnt s.length, R)
  | [] => by simp [digs, full, left, cnt, un64_at R h]
  | [a] => by
    have ha := u8 a
    show un64 (dig64 _ :: dig64 _ :: R) 0 0 = _
    rw [un64_digit _ _ _ _ _ (wh_dig _ (by omega)) (val_dig _ (by omega)) (by omega), un64_digit _ _ _ _ _ (wh_dig _ (by omega)) (val_dig _ (by omega)) (by omega), un64_at R h]
    simp [full, left, cnt]
  | [a, b] => by
    have ha := u8 a
    have hb := u8 b
    show un64 (dig64 _ :: dig64 _ :: dig64 _ :: R) 0 0 = _
    rw [un64_digit _ _ _ _ _ (wh_dig _ (by omega)) (val_dig _ (by omega)) (by omega), un64_digit _ _ _ _ _ (wh_dig _ (by omega)) (val_dig _ (by omega)) (by omega),
      un64_digit _ _ _ _ _ (wh_dig _ (by omega)) (val_dig _ (by omega)) (by omega), un64_at R h]
    simp [full, left, cnt]
  | a :: b :: c :: t => by
    have ih := un_digs R h t
    have ha := u8 a
    have hb := u8 b
    have hc := u8 c
    show un64 (dig64 _ :: dig64 _ :: dig64 _ :: dig64 _ :: (digs t ++ R)) 0 0 = _
    rw [un64_digit _ _ _ _ _ (wh_dig _ (by omega)) (val_dig _ (by omega)) (by omega), un64_digit _ _ _ _ _ (wh_dig _ (by omega)) (val_dig _ (by omega)) (by omega),
      un64_digit _ _ _ _ _ (wh_dig _ (by omega)) (val_dig _ (by omega)) (by omega), un64_four _ _ _ _ (wh_dig _ (by omega)) (val_dig _ (by omega)), ih]
    have e : cnt (a :: b :: c :: t).length = cnt t.length := by
      unfold cnt
      have : (a :: b :: c :: t).length % 3 = t.length % 3 := by simp only [List.length_cons]; omega
      rw [this]
    rw [e, full, left]
    refine Prod.ext ?_ rfl
    simp only [List.cons.injEq, and_true]
    refine ⟨of_eq ?_, of_eq ?_, of_eq ?_⟩ <;> omega
theorem cnt3 (s : List UInt8) (a b c : UInt8) : cnt (a :: b :: c :: s).length = cnt s.length := by
  unfold cnt
  have : (a :: b :: c :: s).length % 3 = s.length % 3 := by simp only [List.length_cons]; omega
  rw [this]
theorem full_tail : ∀ s, full s ++ unTail (left s) (cnt s.length) = s
  | [] => rfl
  | [a] => by
    have ha := u8 a
    simp only [full, left, cnt, unTail, List.length_cons, List.length_nil, List.nil_append]
    simp
    exact of_eq (by omega)
  | [a, b] => by
    have ha := u8 a
    have hb := u8 b
    simp only [full, left, cnt, unTail, List.length_cons, List.length_nil, List.nil_append]
    simp
    exact ⟨of_eq (by omega), of_eq (by omega)⟩
  | a :: b :: c :: t => by
    have ih := full_tail t
    rw [cnt3, full, left]
    simp only [List.cons_append, ih]
/-- What the digits of s, followed by R, are decoded to. -/
theorem unbase_digs (s R : List UInt8) (h : Stop R) : unbase (digs s ++ R) = (s, decide (cnt s.length ≠ 1) && decide (strip R = List.replicate (missing (cnt s.length)) 61)) := by
  unfold unbase
  rw [un_digs R h s]
  simp only [full_tail]
theorem cnt_ne (n : Nat) : cnt n ≠ 1 := by unfold cnt; split <;> omega
theorem missing_cnt (n : Nat) : missing (cnt n) = padn n := by
  unfold missing cnt padn
  have : n % 3 = 0 ∨ n % 3 = 1 ∨ n % 3 = 2 := by omega
  rcases this with h | h | h <;> simp [h]
theorem strip_pad (n : Nat) : strip (List.replicate n 61) = List.replicate n 61 := by
  unfold strip
  rw [List.filter_eq_self]
  intro a ha
  rw [List.eq_of_mem_replicate ha]
  decide
theorem stop_pad (n : Nat) : Stop (List.replicate n 61) := by
  cases n with
  | zero => trivial
  | succ n => exact ⟨by decide, by decide⟩
theorem unbase_grp (s : List UInt8) : unbase (digs s ++ pad s) = (s, true) := by
  rw [unbase_digs s (pad s) (stop_pad _), pad, strip_pad, missing_cnt]
  simp [cnt_ne]
theorem unbase_bare (s : List UInt8) : unbase (digs s) = (s, decide (s.length % 3 = 0)) := by
  have h := unbase_digs s [] trivial
  rw [List.append_nil] at h
  rw [h, missing_cnt]
  simp only [cnt_ne, ne_eq, not_false_eq_true, decide_true, Bool.true_and]
  have e : strip [] = [] := rfl
  rw [e]
  unfold padn
  by_cases h : s.length % 3 = 0
  · simp [h]
  · rw [if_neg h]
    have : s.length % 3 < 3 := Nat.mod_lt _ (by omega)
    have e2 : 3 - s.length % 3 = (2 - s.length % 3) + 1 := by omega
    rw [e2, List.replicate_succ]
    simp [h]
theorem unbase_other (s R : List UInt8) (c : UInt8) (h : wh c = false) (h2 : val64 c = none) (h3 : c ≠ 61) : unbase (digs s ++ c :: R) = (s, false) := by
  rw [unbase_digs s (c :: R) ⟨h, h2⟩]
  have : strip (c :: R) ≠ List.replicate (missing (cnt s.length)) 61 := by
    have e : strip (c :: R) = c :: strip R := by simp [strip, h]
    rw [e]
    intro h4
    have : c ∈ List.replicate (missing (cnt s.length)) (61 : UInt8) := by rw [← h4]; exact List.mem_cons_self
    exact h3 (List.eq_of_mem_replicate this)
  simp [this]

theorem mem_digs : ∀ s, ∀ c ∈ digs s, ∃ v, v < 64 ∧ c = dig64 v
  | [], c, h => by simp [digs] at h
  | [a], c, h => by
    have ha := u8 a
    simp only [digs, List.mem_cons, List.not_mem_nil, or_false] at h
    rcases h with h | h
    · exact ⟨_, by omega, h⟩
    · exact ⟨_, by omega, h⟩
  | [a, b], c, h => by
    have ha := u8 a
    have hb := u8 b
    simp only [digs, List.mem_cons, List.not_mem_nil, or_false] at h
    rcases h with h | h | h
    · exact ⟨_, by omega, h⟩
    · exact ⟨_, by omega, h⟩
    · exact ⟨_, by omega, h⟩
  | a :: b :: d :: t, c, h => by
    have ha := u8 a
    have hb := u8 b
    have hd := u8 d
    rw [digs, List.mem_append] at h
    rcases h with h | h
    · simp only [enc3, List.mem_cons, List.not_mem_nil, or_false] at h
      rcases h with h | h | h | h
      · exact ⟨_, by omega, h⟩
      · exact ⟨_, by omega, h⟩
      · exact ⟨_, by omega, h⟩
      · exact ⟨_, by omega, h⟩
    · exact mem_digs t c h
theorem strip_digs (s : List UInt8) : strip (digs s) = digs s := by
  unfold strip
  rw [List.filter_eq_self]
  intro a ha
  obtain ⟨v, hv, rfl⟩ := mem_digs s a ha
  rw [wh_dig v hv]
  rfl
theorem pad4 (a b c d : UInt8) (t : List UInt8) : pad (a :: b :: c :: d :: t) = pad (d :: t) := by
  unfold pad padn
  have : (a :: b :: c :: d :: t).length % 3 = (d :: t).length % 3 := by simp only [List.length_cons]; omega
  rw [this]
theorem filter10_b64 (p : UInt8 → Bool) (h10 : p 10 = false) (h61 : p 61 = true) (hd : ∀ v, v < 64 → p (dig64 v) = true) : ∀ s col, (b64 s col).filter p = digs s ++ pad s
  | [], col => by simp [b64, digs, pad, padn]
  | [a], col => by
    have e := mem_digs [a]
    rw [b64]
    · rw [List.filter_append, grp, List.filter_append]
      simp only [List.filter_cons, h10, List.filter_nil, Bool.false_eq_true, if_false, List.append_nil]
      rw [List.filter_eq_self.2, List.filter_eq_self.2]
      · intro x hx; rw [List.eq_of_mem_replicate hx, h61]
      · intro x hx; obtain ⟨v, hv, rfl⟩ := e x hx; exact hd v hv
    · simp
    · simp
  | [a, b], col => by
    have e := mem_digs [a, b]
    rw [b64]
    · rw [List.filter_append, grp, List.filter_append]
      simp only [List.filter_cons, h10, List.filter_nil, Bool.false_eq_true, if_false, List.append_nil]
      rw [List.filter_eq_self.2, List.filter_eq_self.2]
      · intro x hx; rw [List.eq_of_mem_replicate hx, h61]
      · intro x hx; obtain ⟨v, hv, rfl⟩ := e x hx; exact hd v hv
    · simp
    · simp
  | [a, b, c], col => by
    have e := mem_digs [a, b, c]
    rw [b64]
    · rw [List.filter_append, grp, List.filter_append]
      simp only [List.filter_cons, h10, List.filter_nil, Bool.false_eq_true, if_false, List.append_nil]
      rw [List.filter_eq_self.2, List.filter_eq_self.2]
      · intro x hx; rw [List.eq_of_mem_replicate hx, h61]
      · intro x hx; obtain ⟨v, hv, rfl⟩ := e x hx; exact hd v hv
    · simp
    · simp
  | a :: b :: c :: d :: t, col => by
    have i0 := filter10_b64 p h10 h61 hd (d :: t) 0
    have i1 := filter10_b64 p h10 h61 hd (d :: t) (col + 4)
    have e3 : (enc3 a b c).filter p = enc3 a b c := by
      rw [List.filter_eq_self]
      intro x hx
      obtain ⟨v, hv, rfl⟩ := mem_digs [a, b, c] x (by simpa [digs] using hx)
      exact hd v hv
    rw [b64, List.filter_append, e3, pad4]
    show _ = (enc3 a b c ++ digs (d :: t)) ++ _
    rw [List.append_assoc]
    congr 1
    split
    · rw [List.filter_cons, h10]
      simpa using i0
    · exact i1
theorem strip_b64 (s : List UInt8) (col : Nat) : strip (b64 s col) = digs s ++ pad s :=
  filter10_b64 _ (by decide) (by decide) (fun v hv => by rw [wh_dig v hv]; rfl) s col
theorem back64 (s : List UInt8) : unbase (b64 s 0) = (s, true) := by rw [unbase_strip, strip_b64, unbase_grp]
/-- Without lines: the text of two parts. -/
theorem digs_append : ∀ s t, s.length % 3 = 0 → digs (s ++ t) = digs s ++ digs t
  | [], t, _ => rfl
  | [a], t, h => by simp at h
  | [a, b], t, h => by simp at h
  | a :: b :: c :: s, t, h => by
    have ih := digs_append s t (by simp only [List.length_cons] at h; omega)
    show enc3 a b c ++ digs (s ++ t) = (enc3 a b c ++ digs s) ++ digs t
    rw [ih, List.append_assoc]
theorem flat64 (s t : List UInt8) (h : s.length % 3 = 0) : (b64 (s ++ t) 0).filter (fun c => decide (c ≠ 10)) = (b64 s 0).filter (fun c => decide (c ≠ 10)) ++ (b64 t 0).filter (fun c => decide (c ≠ 10)) := by
  have hd : ∀ v, v < 64 → (decide (dig64 v ≠ 10)) = true := by decide
  rw [filter10_b64 _ (by decide) (by decide) hd, filter10_b64 _ (by decide) (by decide) hd, filter10_b64 _ (by decide) (by decide) hd, digs_append s t h]
  have e1 : pad s = [] := by simp [pad, padn, h]
  have e2 : pad (s ++ t) = pad t := by
    unfold pad padn
    rw [List.length_append, show (s.length + t.length) % 3 = t.length % 3 by omega]
  rw [e1, e2, List.append_nil, List.append_assoc]

/-- The lines fit. -/
def fitsL (tabs : Bool) : List UInt8 → Nat → Bool
  | [], _ => true
  | c :: t, n =>
    if c = 10 then fitsL tabs t 0
    else if 76 < n + 1 ∨ (c.toNat < 32 ∨ 126 < c.toNat) ∧ ¬ (tabs = true ∧ c = 9) then false
    else if (c = 32 ∨ c = 9) ∧ (t = [] ∨ t.head? = some 10) then false
    else fitsL tabs t (n + 1)
theorem fits_ink (tabs : Bool) (c : UInt8) (t : List UInt8) (n : Nat) (h : 33 ≤ c.toNat ∧ c.toNat ≤ 126) (hn : n + 1 ≤ 76) : fitsL tabs (c :: t) n = fitsL tabs t (n + 1) := by
  have h10 : c ≠ 10 := by rintro rfl; exact absurd h.1 (by decide)
  have h32 : c ≠ 32 := by rintro rfl; exact absurd h.1 (by decide)
  have h9 : c ≠ 9 := by rintro rfl; exact absurd h.1 (by decide)
  rw [fitsL, if_neg h10, if_neg (by omega), if_neg (by simp [h32, h9])]
theorem fits_inks (tabs : Bool) (t : List UInt8) : ∀ (f : List UInt8) n, (∀ c ∈ f, 33 ≤ c.toNat ∧ c.toNat ≤ 126) → n + f.length ≤ 76 → fitsL tabs (f ++ t) n = fitsL tabs t (n + f.length)
  | [], n, _, _ => rfl
  | c :: f, n, h, hn => by
    simp only [List.length_cons] at hn
    rw [List.cons_append, fits_ink tabs c _ n (h c (by simp)) (by omega), fits_inks tabs t f (n + 1) (fun d hd => h d (by simp [hd])) (by omega)]
    congr 1
    simp only [List.length_cons]
    omega
theorem ink_grp (s : List UInt8) : ∀ c ∈ grp s, 33 ≤ c.toNat ∧ c.toNat ≤ 126 := by
  intro c hc
  rcases List.mem_append.1 hc with h | h
  · obtain ⟨v, hv, rfl⟩ := mem_digs s c h
    exact pr_dig v hv
  · rw [List.eq_of_mem_replicate h]
    decide
theorem fits_nl (tabs : Bool) (t : List UInt8) (n : Nat) : fitsL tabs (10 :: t) n = fitsL tabs t 0 := by rw [fitsL, if_pos rfl]
theorem fits64 : ∀ s col, col ≤ 72 ∧ col % 4 = 0 → fitsL false (b64 s col) col = true
  | [], col, _ => rfl
  | [a], col, h => by
    rw [b64]
    · rw [fits_inks false [10] _ col (ink_grp _) (by simp [grp, digs, pad, padn]; omega), fits_nl]
      rfl
    · simp
    · simp
  | [a, b], col, h => by
    rw [b64]
    · rw [fits_inks false [10] _ col (ink_grp _) (by simp [grp, digs, pad, padn]; omega), fits_nl]
      rfl
    · simp
    · simp
  | [a, b, c], col, h => by
    rw [b64]
    · rw [fits_inks false [10] _ col (ink_grp _) (by simp [grp, digs, pad, padn, enc3]; omega), fits_nl]
      rfl
    · simp
    · simp
  | a :: b :: c :: d :: t, col, h => by
    have i0 := fits64 (d :: t) 0 (by omega)
    have i1 := fits64 (d :: t) (col + 4)
    rw [b64, fits_inks false _ _ col (by
      intro x hx
      obtain ⟨v, hv, rfl⟩ := mem_digs [a, b, c] x (by simpa [digs] using hx)
      exact pr_dig v hv) (by simp [enc3]; omega)]
    split
    · rw [fits_nl]
      exact i0
    · exact i1 (by omega)
theorem last64 : ∀ s col, s ≠ [] → (b64 s col).getLast? = some 10
  | [], _, h => absurd rfl h
  | [a], col, _ => by
    rw [b64]
    · simp
    · simp
    · simp
  | [a, b], col, _ => by
    rw [b64]
    · simp
    · simp
    · simp
  | [a, b, c], col, _ => by
    rw [b64]
    · simp
    · simp
    · simp
  | a :: b :: c :: d :: t, col, _ => by
    have i0 := last64 (d :: t) 0 (by simp)
    have i1 := last64 (d :: t) (col + 4) (by simp)
    rw [b64, List.getLast?_append]
    split
    · rw [List.getLast?_cons, i0]
      rfl
    · rw [i1]
      rfl
theorem un64_len (s : List UInt8) : ∀ l n, n ≤ 3 → (un64 s l n).1.length + (un64 s l n).2.2.1 ≤ s.length + n ∧ (un64 s l n).2.2.1 ≤ 3 := by
  induction s with
  | nil => intro l n h; exact ⟨by simp [un64], h⟩
  | cons c t ih =>
    intro l n hn
    by_cases h : wh c = true
    · rw [un64_white c t l n h]
      have := ih l n hn
      simp only [List.length_cons]
      omega
    · have h' : wh c = false := by simpa using h
      cases h2 : val64 c with
      | none =>
        rw [un64_stop c t l n h' h2]
        simp
        omega
      | some v =>
        by_cases h3 : n = 3
        · subst h3
          rw [un64_four c t l v h' h2]
          have := ih 0 0 (by omega)
          simp only [List.length_cons]
          omega
        · rw [un64_digit c t l n v h' h2 h3]
          have := ih (l * 64 + v) (n + 1) (by omega)
          simp only [List.length_cons]
          omega
theorem unbase_len (s : List UInt8) : (unbase s).1.length ≤ s.length := by
  have := un64_len s 0 0 (by omega)
  unfold unbase
  simp only [List.length_append]
  have h2 : (unTail (un64 s 0 0).2.1 (un64 s 0 0).2.2.1).length ≤ (un64 s 0 0).2.2.1 := by
    unfold unTail
    split
    · simp; omega
    · split
      · simp; omega
      · simp
  omega
/-- White bytes between the characters count for nothing. -/
theorem strip_append (s t : List UInt8) : strip (s ++ t) = strip s ++ strip t := List.filter_append ..
theorem strip_white (w : List UInt8) (h : ∀ c ∈ w, wh c = true) : strip w = [] := by
  unfold strip
  rw [List.filter_eq_nil_iff]
  intro c hc
  simp [h c hc]
theorem strip_wide (w : List UInt8) (h : ∀ c ∈ w, wh c = true) : ∀ t : List UInt8, strip (t.flatMap (fun c => w ++ [c])) = strip t
  | [] => rfl
  | c :: t => by
    rw [List.flatMap_cons, strip_append, strip_append, strip_white w h, strip_wide w h t, List.nil_append, ← strip_append]
    rfl
theorem bare64 (s : List UInt8) (col : Nat) : strip ((b64 s col).filter (fun c => decide (c ≠ 61))) = digs s := by
  have e : strip ((b64 s col).filter (fun c => decide (c ≠ 61))) = (strip (b64 s col)).filter (fun c => decide (c ≠ 61)) := by
    unfold strip
    rw [List.filter_filter, List.filter_filter]
    congr 1
    funext c
    rw [Bool.and_comm]
  rw [e, strip_b64, List.filter_append]
  have e1 : (digs s).filter (fun c => decide (c ≠ 61)) = digs s := by
    rw [List.filter_eq_self]
    intro c hc
    obtain ⟨v, hv, rfl⟩ := mem_digs s c hc
    exact decide_eq_true (ne_dig v hv)
  have e2 : (pad s).filter (fun c => decide (c ≠ 61)) = [] := by
    rw [List.filter_eq_nil_iff]
    intro c hc
    rw [List.eq_of_mem_replicate hc]
    decide
  rw [e1, e2, List.append_nil]
theorem white64 (s w : List UInt8) (h : ∀ c ∈ w, wh c = true) : unbase ((b64 s 0).flatMap (fun c => w ++ [c]) ++ w) = (s, true) := by
  rw [unbase_strip, strip_append, strip_wide w h, strip_white w h, List.append_nil, strip_b64, unbase_grp]
theorem bare_white (s : List UInt8) : unbase ((b64 s 0).filter (fun c => decide (c ≠ 61))) = (s, decide (s.length % 3 = 0)) := by
  rw [unbase_strip, bare64, unbase_bare]
theorem other64 (s : List UInt8) (c : UInt8) (h : wh c = false) (h2 : val64 c = none) (h3 : c ≠ 61) (R : List UInt8) :
    unbase ((b64 s 0).filter (fun c => decide (c ≠ 61)) ++ c :: R) = (s, false) := by
  rw [unbase_strip, strip_append, bare64, show strip (c :: R) = c :: strip R by simp [strip, h], unbase_other s _ c h h2 h3]
end Go.Proofs.Ytfephmhphkmegaa.Pl
