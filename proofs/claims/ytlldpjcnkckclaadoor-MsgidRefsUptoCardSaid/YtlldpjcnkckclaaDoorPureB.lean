/- msgid.Valid and msgid.Ids as functions of the list of bytes. -/
import Derived.Test.YtlldpjcnkckclaaDoorPureA
namespace Go.Proofs.YtlldpjcnkckclaaDoor.PA
open Go.RowKit Go.Proofs.YtlldpjcnkckclaaDoorW.PrintWords Go.Proofs.YtlldpjcnkckclaaDoorW.PrintLast Go.Proofs.YtlldpjcnkckclaaDoorW.PrintMore
set_option linter.unusedVariables false
set_option linter.unusedSimpArgs false

abbrev dl (s : ByteArray) : List UInt8 := s.data.toList
theorem dl_length (s : ByteArray) : (dl s).length = s.size := rfl
theorem dl_ext {s t : ByteArray} (h : dl s = dl t) : s = t := by
  cases s; cases t
  simp only [ByteArray.mk.injEq]
  exact Array.toList_inj.1 h
theorem bt_drop (s : ByteArray) (i : Nat) (h : i < s.size) : ∃ c : UInt8, (dl s).drop i = c :: (dl s).drop (i + 1) ∧ bt s (i : Int) = (c.toNat : Int) ∧ (dl s)[i]? = some c := by
  have hl : i < (dl s).length := h
  refine ⟨(dl s)[i], List.drop_eq_getElem_cons hl, ?_, List.getElem?_eq_getElem hl⟩
  simp only [bt, Int.toNat_natCast, dif_pos h]
  rfl
theorem wrap_small (x : Int) (h0 : -9223372036854775808 ≤ x) (h1 : x < 9223372036854775808) : wrap64 x = x := by
  unfold wrap64
  omega

def goodI (x : Int) : Bool := !(decide (x < 33)) && !(decide (x > 126)) && !(decide (x = 60)) && !(decide (x = 62))
def good (c : UInt8) : Bool := goodI (c.toNat : Int)
def validT (l : List UInt8) : Bool := decide (Lib.indexByte l 64 > 0) && (decide (Lib.indexByte l 64 < (l.length : Int) - 1) && ((Lib.countByte l 64 : Nat) : Int) == 1)
def vL (l : List UInt8) : Bool := decide (3 ≤ l.length) && (decide (l.length ≤ 250) && (l.all good && validT l))

theorem Valid_l0 (s : ByteArray) (hs : s.size ≤ 250) : ∀ m i k, i + m = s.size → m < k → msgid_Valid.l0 k s (s.size : Int) (i : Int) = some (((dl s).drop i).all good && validT (dl s))
  | 0, i, 0, _, hk => by omega
  | 0, i, k + 1, h, hk => by
    rw [msgid_Valid.l0, if_neg (by omega)]
    have e : (dl s).drop i = [] := List.drop_eq_nil_of_le (by rw [dl_length]; omega)
    rw [e, wrap_small _ (by omega) (by omega)]
    simp only [strings_IndexByte.f, Hand.indexByte, strings_Count.f, Hand.count, Option.bind_some, List.all_nil, Bool.true_and, validT, dl_length]
    show (if Lib.indexByte (dl s) 64 > 0 then if Lib.indexByte (dl s) 64 < (s.size : Int) - 1 then some (((Lib.countByte (dl s) 64 : Nat) : Int) == 1) else some false else some false) = _
    by_cases h1 : Lib.indexByte (dl s) 64 > 0
    · by_cases h2 : Lib.indexByte (dl s) 64 < (s.size : Int) - 1
      · simp [h1, h2]
      · simp [h1, h2]
    · simp [h1]
  | m + 1, i, 0, _, hk => by omega
  | m + 1, i, k + 1, h, hk => by
    obtain ⟨c, hd, hb, _⟩ := bt_drop s i (by omega)
    rw [msgid_Valid.l0, if_pos (by omega), if_pos (by omega), if_pos (by omega), hb, hd, List.all_cons, wrap_small _ (by omega) (by omega)]
    have ih := Valid_l0 s hs m (i + 1) k (by omega) (by omega)
    push_cast at ih
    rw [ih]
    by_cases h1 : (c.toNat : Int) < 33
    · simp [h1, good, goodI]
    by_cases h2 : (c.toNat : Int) > 126
    · simp [h1, h2, good, goodI]
    by_cases h3 : (c.toNat : Int) = 60
    · simp [h1, h2, h3, good, goodI]
    by_cases h4 : (c.toNat : Int) = 62
    · simp [h1, h2, h3, h4, good, goodI]
    · rw [if_neg h1, if_neg h2, if_neg h3, if_neg h4]
      simp [h1, h2, h3, h4, good, goodI]

theorem Valid_eq (s : ByteArray) (k : Nat) (hk : 260 ≤ k) : msgid_Valid.f k s = some (vL (dl s)) := by
  obtain ⟨k, rfl⟩ : ∃ j, k = j + 1 := ⟨k - 1, by omega⟩
  unfold msgid_Valid.f vL
  rw [dl_length]
  by_cases h1 : (s.size : Int) < 3
  · rw [if_pos h1, msgid_Valid.j0, if_pos rfl]
    simp; omega
  · rw [if_neg h1, msgid_Valid.j0]
    by_cases h2 : (s.size : Int) > 250
    · simp [h2]; omega
    · have h3 := Valid_l0 s (by omega) s.size 0 k (by omega) (by omega)
      rw [if_neg (by simpa using h2)]
      rw [show ((0 : Nat) : Int) = 0 from rfl] at h3
      rw [h3, List.drop_zero]
      have e1 : decide (3 ≤ s.size) = true := decide_eq_true (by omega)
      have e2 : decide (s.size ≤ 250) = true := decide_eq_true (by omega)
      rw [e1, e2]
      rfl

/-! ### the ids of a value -/
def flush (o : Option (List UInt8)) : List ByteArray := match o with
  | some cur => if vL cur = true then [⟨cur.toArray⟩] else []
  | none => []
def scan : List UInt8 → Option (List UInt8) → List ByteArray
  | [], _ => []
  | c :: t, o => if (c.toNat : Int) = 60 then scan t (some []) else if (c.toNat : Int) = 62 then flush o ++ scan t none else scan t (o.map (· ++ [c]))
theorem dl_extract (s : ByteArray) (a b : Nat) : dl (s.extract a b) = ((dl s).take b).drop a := by
  simp [dl, ByteArray.data_extract, Array.toList_extract, List.extract, List.drop_take]
theorem extract_eq (s : ByteArray) (a b : Nat) : s.extract a b = ⟨(((dl s).take b).drop a).toArray⟩ := dl_ext (by rw [dl_extract])
def curOf (s : ByteArray) (i : Nat) (o : Int) : Option (List UInt8) := if o < 0 then none else some (((dl s).take i).drop o.toNat)
theorem curOf_next (s : ByteArray) (i : Nat) (o : Int) (c : UInt8) (hc : (dl s)[i]? = some c) (ho : o ≤ i) : curOf s (i + 1) o = (curOf s i o).map (· ++ [c]) := by
  unfold curOf
  by_cases h : o < 0
  · simp [h]
  · rw [if_neg h, if_neg h]
    have hl : i < (dl s).length := (List.getElem?_eq_some_iff.1 hc).1
    rw [List.take_add_one, hc]
    simp only [Option.toList_some, Option.map_some]
    rw [List.drop_append_of_le_length (by rw [List.length_take]; omega)]

theorem Ids_l0 (s : ByteArray) (hs : s.size < 8796093022208) : ∀ m i k out (o : Int), i + m = s.size → m + 300 ≤ k → out.length ≤ i → -1 ≤ o → o ≤ i →
    msgid_Ids.l0 k s out o (s.size : Int) (i : Int) = some (out ++ scan ((dl s).drop i) (curOf s i o))
  | _, _, 0, _, _, _, hk, _, _, _ => by omega
  | 0, i, k + 1, out, o, h, hk, _, _, _ => by
    rw [msgid_Ids.l0, if_neg (by omega), List.drop_eq_nil_of_le (by rw [dl_length]; omega)]
    simp [scan]
  | m + 1, i, k + 1, out, o, h, hk, hout, ho1, ho2 => by
    obtain ⟨c, hd, hb, hc⟩ := bt_drop s i (by omega)
    rw [msgid_Ids.l0, if_pos (by omega), if_pos (by omega), if_pos (by omega), hb, hd, scan, wrap_small _ (by omega) (by omega)]
    have ih := fun out o h1 h2 h3 => Ids_l0 s hs m (i + 1) k out o (by omega) (by omega) h1 h2 h3
    push_cast at ih
    by_cases h1 : (c.toNat : Int) = 60
    · rw [if_pos h1, if_pos h1, ih out _ (by omega) (by omega) (by omega)]
      congr 3
      unfold curOf
      rw [if_neg (by omega), show ((i : Int) + 1).toNat = i + 1 by omega, List.drop_eq_nil_of_le (by rw [List.length_take]; omega)]
    rw [if_neg h1, if_neg h1]
    by_cases h2 : (c.toNat : Int) = 62
    · rw [if_pos h2, if_pos h2]
      have hnone : curOf s (i + 1) (-1) = none := rfl
      by_cases h3 : o ≥ 0
      · rw [if_pos h3, if_pos h3, if_pos ho2, if_pos (by omega), Valid_eq _ k (by omega), Option.bind_some, dl_extract, Int.toNat_natCast]
        have e : curOf s i o = some (((dl s).take i).drop o.toNat) := if_neg (by omega)
        rw [e]
        by_cases h4 : vL (((dl s).take i).drop o.toNat) = true
        · rw [if_pos h4, if_pos (by omega), ih _ (-1) (by simp; omega) (by omega) (by omega), hnone]
          simp only [flush, h4, if_true, List.append_assoc, List.singleton_append, extract_eq]
        · rw [if_neg h4, ih _ (-1) (by omega) (by omega) (by omega), hnone]
          simp only [flush]
          rw [if_neg h4, List.nil_append]
      · rw [if_neg h3, ih _ (-1) (by omega) (by omega) (by omega), hnone]
        have e : curOf s i o = none := if_pos (by omega)
        rw [e]
        rfl
    · rw [if_neg h2, if_neg h2, ih out o (by omega) (by omega) (by omega), curOf_next s i o c hc ho2]

def idsL (l : List UInt8) : List ByteArray := scan l none
theorem Ids_eq (s : ByteArray) (hs : s.size < 8796093022208) (k : Nat) (hk : s.size + 300 ≤ k) : msgid_Ids.f k s = some (idsL (dl s)) := by
  have h := Ids_l0 s hs s.size 0 k [] (-1) (by omega) hk (by simp) (by omega) (by omega)
  simpa [msgid_Ids.f, idsL, curOf] using h
end Go.Proofs.YtlldpjcnkckclaaDoor.PA
