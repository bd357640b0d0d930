/- For MsgidRefs: what the references' list has, and what a further field changes: plain Lean. -/
import Derived.Test.YtlldpjcnkckclaaDoorPureD
namespace Go.Proofs.YtlldpjcnkckclaaDoor.PA
open Go.RowKit Go.Proofs.YtlldpjcnkckclaaDoorW.PrintWords Go.Proofs.YtlldpjcnkckclaaDoorW.PrintLast Go.Proofs.YtlldpjcnkckclaaDoorW.PrintMore
open Hand (isIn isIn_iff others allOf)
set_option linter.unusedVariables false
set_option linter.unusedSimpArgs false

theorem mem_lastOcc : ∀ {L : List ByteArray} {x : ByteArray}, x ∈ lastOcc L ↔ x ∈ L
  | [], x => by simp [lastOcc]
  | y :: t, x => by
    rw [lastOcc]
    split
    · rename_i h
      rw [mem_lastOcc, List.mem_cons]
      have hy := (isIn_iff t y).1 h
      constructor
      · exact .inr
      · rintro (rfl | h)
        · exact hy
        · exact h
    · rw [List.mem_cons, List.mem_cons, mem_lastOcc]
theorem lastOcc_nd : ∀ L : List ByteArray, (lastOcc L).Nodup
  | [] => List.nodup_nil
  | y :: t => by
    rw [lastOcc]
    split
    · exact lastOcc_nd t
    · rename_i h
      exact List.nodup_cons.2 ⟨fun hm => h ((isIn_iff t y).2 (mem_lastOcc.1 hm)), lastOcc_nd t⟩
theorem lastOcc_last : ∀ L : List ByteArray, (lastOcc L).getLast? = L.getLast?
  | [] => rfl
  | y :: t => by
    rw [lastOcc]
    cases t with
    | nil => rfl
    | cons z t =>
      have ih := lastOcc_last (z :: t)
      split
      · rw [ih]
        simp
      · rw [List.getLast?_cons, List.getLast?_cons, ih]
theorem cutR_last (l : List ByteArray) : (cutR l).getLast? = l.getLast? := by
  unfold cutR
  rw [List.getLast?_drop]
  split
  · have : l = [] := List.eq_nil_of_length_eq_zero (by omega)
    rw [this]
    rfl
  · rfl
theorem others_nil (b : List ByteArray) : others [] b = b := List.filter_eq_self.2 (fun _ _ => rfl)
theorem allOf_last (a b : List ByteArray) : (allOf a b).getLast? = (match a.getLast? with | some x => some x | none => b.getLast?) := by
  unfold allOf
  cases h : a.getLast? with
  | some x => simp
  | none =>
    have : a = [] := by simpa using h
    subst this
    show (others [] b).getLast? = b.getLast?
    rw [others_nil]
theorem allOf_mem' {a b : List ByteArray} {x : ByteArray} (h : x ∈ a ∨ x ∈ b) : x ∈ allOf a b := by
  unfold allOf
  cases hl : a.getLast? with
  | none =>
    have : a = [] := by simpa using hl
    subst this
    simpa [others, isIn] using h
  | some y =>
    have ha : a = a.dropLast ++ [y] := by
      have hne : a ≠ [] := by rintro rfl; simp at hl
      have h1 := List.dropLast_concat_getLast hne
      rw [List.getLast?_eq_some_getLast hne] at hl
      rw [← Option.some.inj hl]
      exact h1.symm
    by_cases hx : x ∈ a
    · rw [ha] at hx
      simp only [List.mem_append, List.mem_singleton] at hx ⊢
      rcases hx with h | h
      · exact .inl (.inl h)
      · exact .inr h
    · have hb := h.resolve_left hx
      simp only [List.mem_append, List.mem_singleton]
      refine .inl (.inr ?_)
      simp only [others, List.mem_filter]
      refine ⟨hb, ?_⟩
      rw [Bool.not_eq_true', Bool.eq_false_iff]
      exact fun e => hx ((isIn_iff a x).1 e)

section
variable (l : List S37)
theorem rL_valid {x : ByteArray} (h : x ∈ refsL l) : vL (dl x) = true := by
  unfold refsL cutR at h
  rcases allOf_mem (mem_lastOcc.1 (List.mem_of_mem_drop h)) with h | h
  · exact idsL_valid _ x h
  · exact idsL_valid _ x h
theorem rL_nodup : (refsL l).Nodup := List.Nodup.sublist (List.drop_sublist _ _) (lastOcc_nd _)
theorem rL_le : (refsL l).length ≤ 100 := by
  unfold refsL cutR
  rw [List.length_drop]
  omega
theorem rL_from {x : ByteArray} (h : x ∈ refsL l) : x ∈ idsF l nmR ∨ x ∈ idsF l nmI := by
  unfold refsL cutR at h
  exact allOf_mem (mem_lastOcc.1 (List.mem_of_mem_drop h))
theorem rL_last : (refsL l).getLast? = (match (idsF l nmR).getLast? with | some x => some x | none => (idsF l nmI).getLast?) := by
  unfold refsL
  rw [cutR_last, lastOcc_last, allOf_last]
theorem rL_nil (h : refsL l = []) : idsF l nmR = [] ∧ idsF l nmI = [] := by
  have h1 := rL_last l
  rw [h] at h1
  cases h2 : (idsF l nmR).getLast? with
  | some x => rw [h2] at h1; simp at h1
  | none =>
    rw [h2] at h1
    exact ⟨by simpa using h2, by simpa using h1.symm⟩
theorem rL_all (h : (refsL l).length < 100) {x : ByteArray} (hx : x ∈ idsF l nmR ∨ x ∈ idsF l nmI) : x ∈ refsL l := by
  unfold refsL cutR at h ⊢
  rw [List.length_drop] at h
  rw [show (lastOcc (allOf (idsF l nmR) (idsF l nmI))).length - 100 = 0 by omega, List.drop_zero]
  exact mem_lastOcc.2 (allOf_mem' hx)
theorem getL_append (m : S37) (nm : List UInt8) (h : (getL l nm).2 = true) : getL (l ++ [m]) nm = getL l nm := by
  induction l with
  | nil => simp [getL] at h
  | cons x t ih =>
    rw [List.cons_append, getL, getL]
    rw [getL] at h
    split
    · rfl
    · rename_i hn
      rw [if_neg hn] at h
      exact ih h
theorem rL_append (m : S37) (h1 : (getL l (dl nmR)).2 = true) (h2 : (getL l (dl nmI)).2 = true) : refsL (l ++ [m]) = refsL l := by
  unfold refsL idsF
  rw [getL_append l m _ h1, getL_append l m _ h2]
end

/-! ### Refs at greater sizes -/
def Mid (l : List S37) : Prop := l.length ≤ 30 ∧ ∀ x ∈ l, x.f0.size ≤ 2000000 ∧ x.f1.size ≤ 2000000
theorem Get_mid (l : List S37) (hl : Mid l) (nm : ByteArray) : ∀ m i k, i + m = l.length → m + 2000010 ≤ k → header_Get.l0 k nm l (l.length : Int) (i : Int) = some (getL (l.drop i) (dl nm))
  | _, _, 0, _, hk => by omega
  | 0, i, k + 1, h, hk => by
    rw [header_Get.l0, if_neg (by omega), List.drop_eq_nil_of_le (by omega)]
    rfl
  | m + 1, i, k + 1, h, hk => by
    have ih := Get_mid l hl nm m (i + 1) k (by omega) (by omega)
    push_cast at ih
    have hlen := hl.1
    have hx := (hl.2 (rd_T37 l (i : Int)) (List.mem_of_getElem? (rdT_of (by omega)))).1
    rw [header_Get.l0, if_pos (by omega), if_pos (by omega), if_pos (by omega), text_Same_eq _ _ (by omega) k (by omega), Option.bind_some, wrap_small _ (by omega) (by omega), ih, drop_rdT (l := l) (i := i) (by omega), getL]
    split <;> rfl
theorem getL_mid (l : List S37) (hl : Mid l) (nm : List UInt8) : (getL l nm).1.size ≤ 2000000 := by
  replace hl := hl.2
  induction l with
  | nil => simp [getL, ByteArray.size]
  | cons x t ih =>
    rw [getL]
    split
    · exact (hl x (by simp)).2
    · exact ih (fun y hy => hl y (by simp [hy]))
theorem Refs_mid (l : List S37) (hl : Mid l) (k : Nat) (hk : 3000000 ≤ k) : msgid_Refs.f k l = some (refsL l) := by
  have hlen := hl.1
  have io : ∀ nm, msgid_idsOf.f k l nm = some (idsF l nm) := by
    intro nm
    have h := getL_mid l hl (dl nm)
    have hg := Get_mid l hl nm l.length 0 k (Nat.zero_add _) (by omega)
    unfold msgid_idsOf.f header_Get.f
    rw [show ((0 : Nat) : Int) = 0 from rfl, List.drop_zero] at hg
    rw [hg, Option.bind_some, Ids_eq _ (by omega) k (by omega), Option.bind_some]
    rfl
  have ha := Nat.le_trans (idsL_length (dl (getL l (dl nmR)).1)) (getL_mid l hl (dl nmR))
  have hb := Nat.le_trans (idsL_length (dl (getL l (dl nmI)).1)) (getL_mid l hl (dl nmI))
  have ha2 := idsF_size l nmR
  have hb2 := idsF_size l nmI
  have hal := allOf_length (idsF l nmR) (idsF l nmI)
  have sm : ∀ {a : List ByteArray}, a.length ≤ 4000000 → (∀ x ∈ a, x.size ≤ 250) → Hand.smallStrs a = true := by
    intro a h1 h2
    simp only [Hand.smallStrs, Bool.and_eq_true, decide_eq_true_eq, List.all_eq_true]
    exact ⟨by omega, fun x hx => by have := h2 x hx; omega⟩
  have ea : (idsF l nmR).length ≤ 2000000 := ha
  have eb : (idsF l nmI).length ≤ 2000000 := hb
  unfold msgid_Refs.f
  rw [show msgid_Refs.s1 = nmR from rfl, show msgid_Refs.s2 = nmI from rfl, io, io, Option.bind_some, Option.bind_some]
  unfold Hand.refsF
  rw [if_pos ⟨sm (by omega) ha2, sm (by omega) hb2⟩]
  unfold Hand.lastOnesF
  rw [if_pos ⟨by omega, by
    rw [List.all_eq_true]
    intro x hx
    rcases allOf_mem hx with h | h
    · have := ha2 x h; simp; omega
    · have := hb2 x h; simp; omega⟩, lastOnes_eq]
  rfl
theorem In_l0 (l : List ByteArray) (hl : l.length < 9223372036854775807) (x : ByteArray) : ∀ m i k, i + m = l.length → m < k → missiveref12_In.l0 k l x (i : Int) = some (isIn (l.drop i) x)
  | _, _, 0, _, hk => by omega
  | 0, i, k + 1, h, hk => by
    rw [missiveref12_In.l0, if_neg (by omega), List.drop_eq_nil_of_le (by omega)]
    rfl
  | m + 1, i, k + 1, h, hk => by
    have ih := In_l0 l hl x m (i + 1) k (by omega) (by omega)
    push_cast at ih
    rw [missiveref12_In.l0, if_pos (by omega), if_pos (by omega), wrap_small _ (by omega) (by omega), ih, drop_rd (l := l) (i := i) (by omega)]
    by_cases h1 : (rdOf ByteArray.empty l (i : Int)).toList = x.toList
    · rw [if_pos h1, toList_inj h1]
      simp [isIn]
    · rw [if_neg h1]
      have : ¬ rdOf ByteArray.empty l (i : Int) = x := fun e => h1 (by rw [e])
      simp [isIn, this]
theorem In_eq (l : List ByteArray) (hl : l.length < 9223372036854775807) (x : ByteArray) (k : Nat) (hk : l.length < k) : missiveref12_In.f k l x = some (isIn l x) := by
  have := In_l0 l hl x l.length 0 k (Nat.zero_add _) hk
  simpa [missiveref12_In.f] using this
/-- What the plain part tells of the lists. -/
structure Told (k : Nat) (a b L : List ByteArray) : Prop where
  valid : ∀ i : Nat, i < L.length → msgid_Valid.f k (rdOf ByteArray.empty L (i : Int)) = some true
  fresh : ∀ i : Nat, i < L.length → missiveref12_In.f k (L.take i) (rdOf ByteArray.empty L (i : Int)) = some false
  ina : ∀ i : Nat, i < L.length → missiveref12_In.f k a (rdOf ByteArray.empty L (i : Int)) = some (isIn a (rdOf ByteArray.empty L (i : Int)))
  inb : ∀ i : Nat, i < L.length → isIn a (rdOf ByteArray.empty L (i : Int)) = false → missiveref12_In.f k b (rdOf ByteArray.empty L (i : Int)) = some true
  le : L.length ≤ 100
  la : a.length ≤ 6000
  lb : b.length ≤ 6000
  nil : L.length = 0 → a.length = 0 ∧ b.length = 0
  some_ : 0 < L.length → 0 < a.length ∨ 0 < b.length
  lasta : 0 < a.length → 0 < L.length ∧ rdOf ByteArray.empty L ((L.length : Int) - 1) = rdOf ByteArray.empty a ((a.length : Int) - 1)
  lastb : a.length = 0 → 0 < b.length → 0 < L.length ∧ rdOf ByteArray.empty L ((L.length : Int) - 1) = rdOf ByteArray.empty b ((b.length : Int) - 1)
  all : L.length < 100 → ∀ i : Nat, i < (a ++ b).length → missiveref12_In.f k L (rdOf ByteArray.empty (a ++ b) (i : Int)) = some true


theorem rd_last {l : List ByteArray} (h : 0 < l.length) : l.getLast? = some (rdOf ByteArray.empty l ((l.length : Int) - 1)) := by
  rw [List.getLast?_eq_getElem?, show ((l.length : Int) - 1) = ((l.length - 1 : Nat) : Int) by omega]
  exact rd_of (by omega)
theorem told_of (l : List S37) (hS : Small l) (k : Nat) (hk : 4000000 ≤ k) : Told k (idsF l nmR) (idsF l nmI) (refsL l) := by
  have ha := idsF_length l hS nmR
  have hb := idsF_length l hS nmI
  have hL := rL_le l
  have hin : ∀ (q : List ByteArray) x, q.length ≤ 20000 → missiveref12_In.f k q x = some (isIn q x) := fun q x hq => In_eq q (by omega) x k (by omega)
  refine ⟨fun i hi => ?_, fun i hi => ?_, fun i hi => ?_, fun i hi hf => ?_, hL, ha, hb, fun h => ?_, fun h => ?_, fun h => ?_, fun h h2 => ?_, fun h i hi => ?_⟩
  · rw [Valid_eq _ k (by omega), rL_valid l (rd_mem hi)]
  · rw [hin _ _ (by rw [List.length_take]; omega)]
    congr 1
    rw [Bool.eq_false_iff]
    intro e
    have hm := (isIn_iff _ _).1 e
    have hnd := rL_nodup l
    rw [← List.take_append_drop i (refsL l)] at hnd
    have hd := (List.nodup_append.1 hnd).2.2
    refine hd _ hm _ ?_ rfl
    rw [drop_rd hi]
    exact List.mem_cons_self
  · exact hin _ _ (by omega)
  · rw [hin _ _ (by omega)]
    congr 1
    rcases rL_from l (rd_mem hi) with h | h
    · exact absurd ((isIn_iff _ _).2 h) (by rw [hf]; simp)
    · exact (isIn_iff _ _).2 h
  · have := rL_nil l (List.eq_nil_of_length_eq_zero h)
    exact ⟨by rw [this.1]; rfl, by rw [this.2]; rfl⟩
  · by_cases h1 : 0 < (idsF l nmR).length
    · exact .inl h1
    · right
      have e := rL_last l
      have e1 : idsF l nmR = [] := List.eq_nil_of_length_eq_zero (by omega)
      rw [e1, rd_last h] at e
      cases hc : idsF l nmI with
      | nil => rw [hc] at e; simp at e
      | cons => simp
  · have e := rL_last l
    rw [rd_last h] at e
    have hp : 0 < (refsL l).length := by
      cases hc : refsL l with
      | nil => rw [hc] at e; simp at e
      | cons => simp
    rw [rd_last hp] at e
    exact ⟨hp, Option.some.inj e⟩
  · have e := rL_last l
    have e1 : idsF l nmR = [] := List.eq_nil_of_length_eq_zero h
    rw [e1, rd_last h2] at e
    have hp : 0 < (refsL l).length := by
      cases hc : refsL l with
      | nil => rw [hc] at e; simp at e
      | cons => simp
    rw [rd_last hp] at e
    exact ⟨hp, Option.some.inj e⟩
  · rw [hin _ _ (by omega)]
    congr 1
    refine (isIn_iff _ _).2 (rL_all l h ?_)
    exact List.mem_append.1 (rd_mem hi)
end Go.Proofs.YtlldpjcnkckclaaDoor.PA
