/- The references of a message: msgid.Refs and the reference's Refs are the same list. -/
import Derived.Test.YtlldpjcnkckclaaDoorPureC
namespace Go.Proofs.YtlldpjcnkckclaaDoor.PA
open Go.RowKit Go.Proofs.YtlldpjcnkckclaaDoorW.PrintWords Go.Proofs.YtlldpjcnkckclaaDoorW.PrintLast Go.Proofs.YtlldpjcnkckclaaDoorW.PrintMore
open Hand (isIn isIn_iff keepGo lastOnes others allOf)
set_option linter.unusedVariables false
set_option linter.unusedSimpArgs false

/-! ### the last occurrences -/
def lastOcc : List ByteArray → List ByteArray
  | [] => []
  | x :: t => if isIn t x = true then lastOcc t else x :: lastOcc t
def cutR (l : List ByteArray) : List ByteArray := l.drop (l.length - 100)
def news : List ByteArray → List ByteArray → List ByteArray
  | _, [] => []
  | S, x :: xs => if isIn S x = true then news S xs else x :: news (S ++ [x]) xs
theorem keepGo_news : ∀ xs acc, acc.length ≤ 100 → keepGo acc xs = (acc ++ news acc xs).take 100
  | [], acc, h => by
    rw [keepGo, news, List.append_nil, List.take_of_length_le h]
  | x :: xs, acc, h => by
    rw [keepGo, news]
    by_cases hl : acc.length < 100
    · rw [if_pos hl]
      by_cases hi : isIn acc x = true
      · rw [if_pos hi, if_pos hi]
        exact keepGo_news xs acc h
      · rw [if_neg hi, if_neg hi, keepGo_news xs _ (by simp; omega)]
        simp
    · rw [if_neg hl, List.take_append_of_le_length (by omega), List.take_of_length_le (by omega)]
theorem isIn_congr {S T : List ByteArray} {x : ByteArray} (h : x ∈ S ↔ x ∈ T) : isIn S x = isIn T x := by
  rw [Bool.eq_iff_iff, isIn_iff, isIn_iff, h]
theorem news_append (x : ByteArray) : ∀ xs S, news S (xs ++ [x]) = news S xs ++ (if isIn (S ++ xs) x = true then [] else [x])
  | [], S => by
    simp only [List.nil_append, news, List.append_nil]
  | y :: xs, S => by
    rw [List.cons_append, news, news]
    by_cases h : isIn S y = true
    · rw [if_pos h, if_pos h, news_append x xs S]
      have hy := (isIn_iff S y).1 h
      rw [isIn_congr (S := S ++ xs) (T := S ++ y :: xs) (by
        simp only [List.mem_append, List.mem_cons]
        constructor
        · rintro (h | h)
          · exact .inl h
          · exact .inr (.inr h)
        · rintro (h | rfl | h)
          · exact .inl h
          · exact .inl hy
          · exact .inr h)]
    · rw [if_neg h, if_neg h, news_append x xs (S ++ [y]), List.cons_append]
      simp only [List.append_assoc, List.singleton_append]
theorem news_last : ∀ L, (news [] L.reverse).reverse = lastOcc L
  | [] => rfl
  | x :: t => by
    rw [List.reverse_cons, news_append, List.reverse_append, news_last t, lastOcc, List.nil_append, isIn_congr (S := t.reverse) (T := t) (by simp)]
    by_cases h : isIn t x = true
    · rw [if_pos h, if_pos h]
      rfl
    · rw [if_neg h, if_neg h]
      rfl
theorem lastOnes_eq (L : List ByteArray) : lastOnes L = cutR (lastOcc L) := by
  unfold lastOnes
  rw [keepGo_news _ _ (by simp), List.nil_append, List.reverse_take, news_last, cutR]
  congr 2
  rw [← news_last, List.length_reverse]
theorem lastOcc_length : ∀ L, (lastOcc L).length ≤ L.length
  | [] => Nat.le_refl _
  | x :: t => by
    have := lastOcc_length t
    rw [lastOcc]
    split
    · simp; omega
    · simp; omega
theorem others_length (a b : List ByteArray) : (others a b).length ≤ b.length := List.length_filter_le _ _
theorem allOf_length (a b : List ByteArray) : (allOf a b).length ≤ a.length + b.length := by
  have := others_length a b
  unfold allOf
  cases h : a.getLast? with
  | none => simp; omega
  | some x =>
    have : a ≠ [] := by rintro rfl; simp at h
    have := List.length_pos_iff.2 this
    simp; omega
theorem allOf_mem {a b : List ByteArray} {x : ByteArray} (h : x ∈ allOf a b) : x ∈ a ∨ x ∈ b := by
  unfold allOf at h
  cases hl : a.getLast? with
  | none =>
    rw [hl] at h
    exact .inr (List.mem_filter.1 h).1
  | some y =>
    rw [hl] at h
    simp only [List.mem_append, List.mem_singleton] at h
    rcases h with (h | h) | h
    · exact .inl (List.dropLast_subset a h)
    · exact .inr (List.mem_filter.1 h).1
    · exact .inl (h ▸ List.mem_of_getLast? hl)

/-! ### msgid.Refs -/
theorem idsL_valid (l : List UInt8) : ∀ x ∈ idsL l, vL (dl x) = true := scan_valid l none
theorem idsL_size (l : List UInt8) : ∀ x ∈ idsL l, x.size ≤ 250 := fun x hx => (vL_good (idsL_valid l x hx)).2
theorem idsL_length (l : List UInt8) : (idsL l).length ≤ l.length := scan_length l none
def nmR : ByteArray := ⟨#[82, 101, 102, 101, 114, 101, 110, 99, 101, 115]⟩
def nmI : ByteArray := ⟨#[73, 110, 45, 82, 101, 112, 108, 121, 45, 84, 111]⟩
def idsF (l : List S37) (nm : ByteArray) : List ByteArray := idsL (dl (getL l (dl nm)).1)
theorem idsF_size (l : List S37) (nm : ByteArray) : ∀ x ∈ idsF l nm, x.size ≤ 250 := idsL_size _
theorem idsF_length (l : List S37) (hl : Small l) (nm : ByteArray) : (idsF l nm).length ≤ 6000 := Nat.le_trans (idsL_length _) (getL_size l hl (dl nm))
theorem idsOf_eq (l : List S37) (hl : Small l) (nm : ByteArray) (k : Nat) (hk : 7000 ≤ k) : msgid_idsOf.f k l nm = some (idsF l nm) := by
  have h := getL_size l hl (dl nm)
  unfold msgid_idsOf.f
  rw [Get_eq l hl nm k (by omega), Option.bind_some, Ids_eq _ (by omega) k (by omega), Option.bind_some]
  rfl
def refsL (l : List S37) : List ByteArray := cutR (lastOcc (allOf (idsF l nmR) (idsF l nmI)))
theorem smallStrs_of {a : List ByteArray} (h1 : a.length ≤ 20000) (h2 : ∀ x ∈ a, x.size ≤ 250) : Hand.smallStrs a = true := by
  simp only [Hand.smallStrs, Bool.and_eq_true, decide_eq_true_eq, List.all_eq_true]
  exact ⟨by omega, fun x hx => by have := h2 x hx; omega⟩
theorem Refs_eq (l : List S37) (hl : Small l) (k : Nat) (hk : 7000 ≤ k) : msgid_Refs.f k l = some (refsL l) := by
  have ha := idsF_length l hl nmR
  have hb := idsF_length l hl nmI
  have ha2 := idsF_size l nmR
  have hb2 := idsF_size l nmI
  have hal := allOf_length (idsF l nmR) (idsF l nmI)
  unfold msgid_Refs.f
  rw [show msgid_Refs.s1 = nmR from rfl, show msgid_Refs.s2 = nmI from rfl, idsOf_eq l hl nmR k hk, idsOf_eq l hl nmI k hk, Option.bind_some, Option.bind_some]
  unfold Hand.refsF
  rw [if_pos ⟨smallStrs_of (by omega) ha2, smallStrs_of (by omega) hb2⟩]
  unfold Hand.lastOnesF
  rw [if_pos ⟨by omega, by
    rw [List.all_eq_true]
    intro x hx
    rcases allOf_mem hx with h | h
    · have := ha2 x h; simp; omega
    · have := hb2 x h; simp; omega⟩, lastOnes_eq]
  rfl
end Go.Proofs.YtlldpjcnkckclaaDoor.PA
