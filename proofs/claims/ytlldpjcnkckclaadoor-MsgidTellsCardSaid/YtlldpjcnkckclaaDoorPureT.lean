/- MsgidTells is true at every input: the program's functions and the reference's are the same. -/
import Derived.Test.YtlldpjcnkckclaaDoorPureD
import Derived.Test.YtlldpjcnkckclaaDoorPAx7
namespace Go.Proofs.YtlldpjcnkckclaaDoor.PA
open Go.RowKit Go.Proofs.YtlldpjcnkckclaaDoorW.PrintWords Go.Proofs.YtlldpjcnkckclaaDoorW.PrintLast Go.Proofs.YtlldpjcnkckclaaDoorW.PrintMore
open Hand (isIn isIn_iff others allOf)
set_option linter.unusedVariables false
set_option linter.unusedSimpArgs false
set_option maxRecDepth 100000

/-! ### the reference's Valid -/
/-- What the reference's loop does: the place of the one '@' so far, or -1. -/
def refV : List UInt8 → Int → Int → Int → Bool
  | [], at_, _, n => decide (at_ > 0) && decide (at_ < n - 1)
  | c :: t, at_, i, n => good c && (if (c.toNat : Int) = 64 then (if at_ ≥ 0 then false else refV t i (i + 1) n) else refV t at_ (i + 1) n)
theorem refV_l0 (s : ByteArray) (hs : s.size ≤ 250) : ∀ m i k (p : Int), i + m = s.size → 2 * m < k → -1 ≤ p → p < i →
    missiveref12_Valid.l0 k s p (i : Int) = some (refV ((dl s).drop i) p (i : Int) (s.size : Int))
  | _, _, 0, _, _, hk, _, _ => by omega
  | 0, i, k + 1, p, h, hk, h1, h2 => by
    rw [missiveref12_Valid.l0, if_neg (by omega), List.drop_eq_nil_of_le (by rw [dl_length]; omega), refV, wrap_small _ (by omega) (by omega)]
    by_cases hp : p > 0
    · rw [if_pos hp]; simp [hp]
    · rw [if_neg hp]; simp [hp]
  | m + 1, i, 1, p, h, hk, h1, h2 => by omega
  | m + 1, i, k + 2, p, h, hk, h1, h2 => by
    obtain ⟨c, hd, hb, _⟩ := bt_drop s i (by omega)
    have ih := fun p h1 h2 => refV_l0 s hs m (i + 1) k p (by omega) (by omega) h1 h2
    push_cast at ih
    rw [missiveref12_Valid.l0, if_pos (by omega), if_pos (by omega), hb, hd, refV]
    have hj : ∀ b, missiveref12_Valid.j2 (k + 1) s p (i : Int) b = if b = true then some false else
        (if (c.toNat : Int) = 64 then missiveref12_Valid.l0 k s (i : Int) ((i : Int) + 1) else missiveref12_Valid.l0 k s p ((i : Int) + 1)) := by
      intro b
      rw [missiveref12_Valid.j2, if_pos (show (0 : Int) ≤ (i : Int) by omega), if_pos (show (i : Int) < (s.size : Int) by omega), hb, wrap_small _ (by omega) (by omega)]
    rw [hj, hj, hj, ih (i : Int) (by omega) (by omega), ih p h1 (by omega)]
    by_cases g1 : (c.toNat : Int) < 33
    · rw [if_pos g1, if_pos rfl]; simp [good, goodI, g1]
    rw [if_neg g1]
    by_cases g2 : (c.toNat : Int) > 126
    · rw [if_pos g2, if_pos rfl]; simp [good, goodI, g2]
    rw [if_neg g2]
    by_cases g3 : (c.toNat : Int) = 60
    · rw [if_pos g3, if_pos rfl]; simp [good, goodI, g3]
    rw [if_neg g3]
    by_cases g4 : (c.toNat : Int) = 62
    · rw [if_pos g4, if_pos rfl]; simp [good, goodI, g4]
    rw [if_neg g4]
    have hg : good c = true := by simp [good, goodI, g1, g2, g3, g4]
    rw [hg, Bool.true_and]
    by_cases g5 : (c.toNat : Int) = 64
    · rw [if_pos g5, if_pos g5, if_pos g5]
      by_cases g6 : p ≥ 0
      · rw [if_pos g6]; simp [g6]
      · rw [if_neg g6, if_neg (by simp; omega)]
    · rw [if_neg g5, if_neg g5, if_neg g5, if_neg (by simp)]

theorem is64 (c : UInt8) : ((c.toNat : Int) = 64) ↔ c = 64 := by
  constructor
  · intro h
    apply UInt8.toNat_inj.1
    show c.toNat = 64
    omega
  · rintro rfl
    rfl
theorem refV_one (n : Int) : ∀ (l : List UInt8) (p i : Int), 0 ≤ p → refV l p i n = (l.all good && (decide (l.count 64 = 0) && (decide (p > 0) && decide (p < n - 1))))
  | [], p, i, hp => by simp [refV]
  | c :: t, p, i, hp => by
    rw [refV, refV_one n t p (i + 1) hp, List.all_cons, List.count_cons]
    by_cases h : (c.toNat : Int) = 64
    · have hc := (is64 c).1 h
      rw [if_pos h, if_pos hp, if_pos (by simpa using hc)]
      simp
    · have hc : ¬ c = 64 := fun e => h ((is64 c).2 e)
      rw [if_neg h, if_neg (by simpa using hc)]
      simp [Bool.and_assoc]
theorem refV_zero (n : Int) : ∀ (l : List UInt8) (i : Int), 0 ≤ i →
    refV l (-1) i n = (l.all good && (decide (0 ≤ Lib.indexByte l 64) && (decide (l.count 64 = 1) && (decide (i + Lib.indexByte l 64 > 0) && decide (i + Lib.indexByte l 64 < n - 1)))))
  | [], i, hi => by simp [refV, Lib.indexByte]
  | c :: t, i, hi => by
    have hge := Lib.indexByte_ge t 64
    rw [refV, List.all_cons, List.count_cons, Lib.indexByte]
    by_cases h : (c.toNat : Int) = 64
    · have hc := (is64 c).1 h
      rw [if_pos h, if_neg (by omega), refV_one n t i (i + 1) hi, if_pos (by simpa using hc), if_pos (by simpa using hc)]
      simp [Bool.and_assoc]
    · have hc : ¬ c = 64 := fun e => h ((is64 c).2 e)
      rw [if_neg h, refV_zero n t (i + 1) (by omega), if_neg (by simpa using hc)]
      by_cases h1 : Lib.indexByte t 64 = -1
      · rw [if_pos (by simpa using h1), h1]
        simp
      · rw [if_neg (by simpa using h1)]
        have e1 : decide (0 ≤ Lib.indexByte t 64) = true := decide_eq_true (by omega)
        have e2 : decide (0 ≤ Lib.indexByte t 64 + 1) = true := decide_eq_true (by omega)
        rw [e1, e2, show i + 1 + Lib.indexByte t 64 = i + (Lib.indexByte t 64 + 1) by omega]
        simp [Bool.and_assoc, hc]
theorem refV_vT (l : List UInt8) : refV l (-1) 0 l.length = (l.all good && validT l) := by
  rw [refV_zero _ l 0 (Int.le_refl _), validT, Lib.countByte]
  simp only [Int.zero_add]
  by_cases h : Lib.indexByte l 64 > 0
  · have e1 : decide (0 ≤ Lib.indexByte l 64) = true := decide_eq_true (by omega)
    have e2 : decide (Lib.indexByte l 64 > 0) = true := decide_eq_true h
    have e3 : (((l.count 64 : Nat) : Int) == 1) = decide (l.count 64 = 1) := by
      rw [Bool.eq_iff_iff]
      simp
      omega
    rw [e1, e2, e3]
    cases decide (l.count 64 = 1) <;> simp
  · have e2 : decide (Lib.indexByte l 64 > 0) = false := decide_eq_false h
    rw [e2]
    simp
theorem refValid_eq (s : ByteArray) (k : Nat) (hk : 600 ≤ k) : missiveref12_Valid.f k s = some (vL (dl s)) := by
  obtain ⟨k, rfl⟩ : ∃ j, k = j + 1 := ⟨k - 1, by omega⟩
  unfold missiveref12_Valid.f vL
  rw [dl_length]
  by_cases h1 : (s.size : Int) < 3
  · rw [if_pos h1, missiveref12_Valid.j0, if_pos rfl]
    simp; omega
  · rw [if_neg h1, missiveref12_Valid.j0]
    by_cases h2 : (s.size : Int) > 250
    · simp [h2]; omega
    · have h3 := refV_l0 s (by omega) s.size 0 k (-1) (by omega) (by omega) (by omega) (by omega)
      rw [if_neg (by simpa using h2)]
      rw [show ((0 : Nat) : Int) = 0 from rfl] at h3
      rw [h3, List.drop_zero]
      have h4 := refV_vT (dl s)
      rw [dl_length] at h4
      have e1 : decide (3 ≤ s.size) = true := decide_eq_true (by omega)
      have e2 : decide (s.size ≤ 250) = true := decide_eq_true (by omega)
      rw [e1, e2, h4]
      rfl

/-! ### the reference's Ids -/
theorem refIds_l0 (s : ByteArray) (hs : s.size < 8796093022208) : ∀ m i k out (o : Int), i + m = s.size → 3 * m + 700 ≤ k → out.length ≤ i → -1 ≤ o → o < i →
    missiveref12_Ids.l0 k s out o (i : Int) = some (out ++ scan ((dl s).drop i) (curOf s i (if o < 0 then -1 else o + 1)))
  | _, _, 0, _, _, _, hk, _, _, _ => by omega
  | 0, i, k + 1, out, o, h, hk, _, _, _ => by
    rw [missiveref12_Ids.l0, if_neg (by omega), List.drop_eq_nil_of_le (by rw [dl_length]; omega)]
    simp [scan]
  | m + 1, i, 1, out, o, h, hk, hout, ho1, ho2 => by omega
  | m + 1, i, 2, out, o, h, hk, hout, ho1, ho2 => by omega
  | m + 1, i, k + 3, out, o, h, hk, hout, ho1, ho2 => by
    obtain ⟨c, hd, hb, hc⟩ := bt_drop s i (by omega)
    have ih := fun out o h1 h2 h3 => refIds_l0 s hs m (i + 1) k out o (by omega) (by omega) h1 h2 h3
    push_cast at ih
    rw [missiveref12_Ids.l0, if_pos (by omega), if_pos (by omega), hb, hd, scan]
    by_cases h1 : (c.toNat : Int) = 60
    · have h2 : ¬ (c.toNat : Int) = 62 := by omega
      rw [if_pos h1, if_pos h1, missiveref12_Ids.j1, if_pos (by omega), if_pos (by omega), hb, if_neg h2, missiveref12_Ids.j2, if_neg (by simp), wrap_small _ (by omega) (by omega), ih out (i : Int) (by omega) (by omega) (by omega)]
      congr 3
      rw [if_neg (by omega)]
      unfold curOf
      rw [if_neg (by omega), show ((i : Int) + 1).toNat = i + 1 by omega, List.drop_eq_nil_of_le (by rw [List.length_take]; omega)]
    rw [if_neg h1, if_neg h1, missiveref12_Ids.j1, if_pos (by omega), if_pos (by omega), hb]
    by_cases h2 : (c.toNat : Int) = 62
    · rw [if_pos h2, if_pos h2, missiveref12_Ids.j2]
      by_cases h3 : o ≥ 0
      · have hnone : curOf s (i + 1) (if (-1 : Int) < 0 then -1 else -1 + 1) = none := rfl
        rw [if_pos (by simpa using h3), wrap_small (o + 1) (by omega) (by omega), if_pos (by omega), if_pos (by omega), if_pos (by omega), refValid_eq _ k (by omega), Option.bind_some, dl_extract, Int.toNat_natCast, wrap_small ((i : Int) + 1) (by omega) (by omega)]
        have e : curOf s i (if o < 0 then -1 else o + 1) = some (((dl s).take i).drop (o + 1).toNat) := by rw [if_neg (by omega)]; exact if_neg (by omega)
        rw [e]
        by_cases h4 : vL (((dl s).take i).drop (o + 1).toNat) = true
        · rw [if_pos h4, if_pos (by omega), ih _ (-1) (by simp; omega) (by omega) (by omega), hnone]
          simp only [flush, h4, if_true, List.append_assoc, List.singleton_append, extract_eq]
        · rw [if_neg h4, ih _ (-1) (by omega) (by omega) (by omega), hnone]
          simp only [flush]
          rw [if_neg h4, List.nil_append]
      · obtain rfl : o = -1 := by omega
        rw [if_neg (by simp), wrap_small _ (by omega) (by omega), ih _ (-1) (by omega) (by omega) (by omega)]
        rfl
    · rw [if_neg h2, if_neg h2, missiveref12_Ids.j2, if_neg (by simp), wrap_small _ (by omega) (by omega), ih out o (by omega) (by omega) (by omega)]
      have e : curOf s (i + 1) (if o < 0 then -1 else o + 1) = (curOf s i (if o < 0 then -1 else o + 1)).map (· ++ [c]) := by
        refine curOf_next s i _ c hc ?_
        split <;> omega
      rw [e]
theorem refIds_eq (s : ByteArray) (hs : s.size < 8796093022208) (k : Nat) (hk : 3 * s.size + 700 ≤ k) : missiveref12_Ids.f k s = some (idsL (dl s)) := by
  have h := refIds_l0 s hs s.size 0 k [] (-1) (by omega) hk (by simp) (by omega) (by omega)
  simpa [missiveref12_Ids.f, idsL, curOf] using h
theorem refFirst_eq (s : ByteArray) (hs : s.size < 8796093022208) (k : Nat) (hk : 3 * s.size + 700 ≤ k) :
    missiveref12_First.f k s = some (match idsL (dl s) with | [] => ((⟨#[]⟩ : ByteArray), false) | x :: _ => (x, true)) := by
  unfold missiveref12_First.f
  rw [refIds_eq s hs k hk, Option.bind_some]
  cases idsL (dl s) with
  | nil => rfl
  | cons x t =>
    rw [if_neg (by simp; omega), if_pos (by simp)]
    rfl
theorem Own_eq (l : List S37) (hl : Small l) (k : Nat) (hk : 20000 ≤ k) : msgid_Own.f k l = missiveref12_Own.f k l := by
  have hz := getL_size l hl (dl (⟨#[77, 101, 115, 115, 97, 103, 101, 45, 73, 68]⟩ : ByteArray))
  unfold msgid_Own.f missiveref12_Own.f
  rw [Get_eq l hl _ k (by omega), refGet_eq l hl _ (by decide) k (by omega), Option.bind_some, Option.bind_some, First_eq _ (by omega) k (by omega), refFirst_eq _ (by omega) k (by omega), Option.bind_some]
  have hg : ∀ (l : List S37) nm, (getL l nm).2 = false → (getL l nm).1 = ⟨#[]⟩ := by
    intro l nm
    induction l with
    | nil => intro _; rfl
    | cons x t ih =>
      rw [getL]
      split
      · intro h; cases h
      · exact ih
  cases h : (getL l (dl (⟨#[77, 101, 115, 115, 97, 103, 101, 45, 73, 68]⟩ : ByteArray))).2 with
  | true =>
    rw [if_pos rfl, Option.bind_some]
    cases idsL (dl (getL l (dl (⟨#[77, 101, 115, 115, 97, 103, 101, 45, 73, 68]⟩ : ByteArray))).1) <;> rfl
  | false =>
    rw [if_neg (by simp), hg _ _ h]
    rfl

/-! ### Make -/
def tblB : ByteArray := ⟨#[48, 49, 50, 51, 52, 53, 54, 55, 56, 57, 97, 98, 99, 100, 101, 102]⟩
def hx (x : Int) : List Int := [bt tblB (x / 16), bt tblB (Go.bits .and .u8 x 15)]
theorem hx_ok : ∀ n : Fin 256, 0 ≤ ((n.val : Nat) : Int) / 16 ∧ ((n.val : Nat) : Int) / 16 < 16 ∧ 0 ≤ Go.bits .and .u8 ((n.val : Nat) : Int) 15 ∧ Go.bits .and .u8 ((n.val : Nat) : Int) 15 < 16 ∧
    missiveref03_digit.f (wrap64 (Int.tdiv (wrap64 ((n.val : Nat) : Int)) 16)) = some (bt tblB (((n.val : Nat) : Int) / 16)) ∧
    missiveref03_digit.f (Int.tmod (wrap64 ((n.val : Nat) : Int)) 16) = some (bt tblB (Go.bits .and .u8 ((n.val : Nat) : Int) 15)) := by
  decide +kernel
theorem hx_of (c : UInt8) : 0 ≤ (c.toNat : Int) / 16 ∧ (c.toNat : Int) / 16 < 16 ∧ 0 ≤ Go.bits .and .u8 (c.toNat : Int) 15 ∧ Go.bits .and .u8 (c.toNat : Int) 15 < 16 ∧
    missiveref03_digit.f (wrap64 (Int.tdiv (wrap64 (c.toNat : Int)) 16)) = some (bt tblB ((c.toNat : Int) / 16)) ∧
    missiveref03_digit.f (Int.tmod (wrap64 (c.toNat : Int)) 16) = some (bt tblB (Go.bits .and .u8 (c.toNat : Int) 15)) := hx_ok ⟨c.toNat, c.toNat_lt⟩
def hexL (l : List UInt8) : List Int := l.flatMap fun c => hx (c.toNat : Int)
theorem Hex_l0 (s : ByteArray) (hs : s.size ≤ 100) : ∀ m i k (out : List Int), i + m = s.size → m < k → out.length ≤ 2 * i → digest_Hex.l0 k s out (s.size : Int) (i : Int) = some (strOfNums (out ++ hexL ((dl s).drop i)))
  | _, _, 0, _, _, hk, _ => by omega
  | 0, i, k + 1, out, h, hk, ho => by
    rw [digest_Hex.l0, if_neg (by omega), List.drop_eq_nil_of_le (by rw [dl_length]; omega)]
    simp [hexL]
  | m + 1, i, k + 1, out, h, hk, ho => by
    obtain ⟨c, hd, hb, _⟩ := bt_drop s i (by omega)
    obtain ⟨h1, h2, h3, h4, _, _⟩ := hx_of c
    have ih := fun out ho => Hex_l0 s hs m (i + 1) k out (by omega) (by omega) ho
    push_cast at ih
    rw [digest_Hex.l0, if_pos (by omega), if_pos (by omega), if_pos (by omega), hb, if_pos h1, if_pos h2, if_pos h3, if_pos h4, Option.bind_some, if_pos (by simp; omega), wrap_small _ (by omega) (by omega), ih _ (by simp; omega), hd]
    simp only [hexL, List.flatMap_cons, hx, List.append_assoc]
    rfl
theorem refHex_l0 (s : ByteArray) (hs : s.size ≤ 100) : ∀ m i k (out : List Int), i + m = s.size → m < k → out.length ≤ 2 * i → missiveref03_Hex.l0 k s out (i : Int) = some (strOfNums (out ++ hexL ((dl s).drop i)))
  | _, _, 0, _, _, hk, _ => by omega
  | 0, i, k + 1, out, h, hk, ho => by
    rw [missiveref03_Hex.l0, if_neg (by omega), List.drop_eq_nil_of_le (by rw [dl_length]; omega)]
    simp [hexL]
  | m + 1, i, k + 1, out, h, hk, ho => by
    obtain ⟨c, hd, hb, _⟩ := bt_drop s i (by omega)
    obtain ⟨_, _, _, _, h5, h6⟩ := hx_of c
    have ih := fun out ho => refHex_l0 s hs m (i + 1) k out (by omega) (by omega) ho
    push_cast at ih
    rw [missiveref03_Hex.l0, if_pos (by omega), if_pos (by omega), hb, h5, Option.bind_some, h6, Option.bind_some, Option.bind_some, if_pos (by simp; omega), wrap_small ((i : Int) + 1) (by omega) (by omega), ih _ (by simp; omega), hd]
    simp only [hexL, List.flatMap_cons, hx, List.append_assoc]
theorem first_eq (a : ByteArray) : strOfNums (Hand.firstTen a) = (a ++ (⟨#[0, 0, 0, 0, 0, 0, 0, 0, 0, 0]⟩ : ByteArray)).extract 0 10 := by
  apply dl_ext
  rw [dl_extract, dl_append, List.drop_zero, List.take_append]
  show (Hand.firstTen a).map (fun n => UInt8.ofNat n.toNat) = _
  simp only [Hand.firstTen, List.map_append, List.map_take, List.map_map, List.map_replicate, dl_length]
  congr 1
  · rw [List.map_congr_left (g := id) (fun c _ => by simp)]
    simp
  · show List.replicate _ 0 = (List.replicate 10 (0 : UInt8)).take (10 - a.size)
    rw [List.take_replicate]
    congr 1
    show 10 - Nat.min a.size 10 = _
    have : Nat.min a.size 10 = min a.size 10 := rfl
    omega
theorem hexL_length : ∀ l, (hexL l).length = 2 * l.length
  | [] => rfl
  | c :: t => by
    have := hexL_length t
    show (hx (c.toNat : Int) ++ hexL t).length = _
    rw [List.length_append, this, List.length_cons]
    show 2 + 2 * t.length = _
    omega
theorem Make_eq (a : ByteArray) (ha : a.size ≤ 1000) (k : Nat) (hk : 1000 ≤ k) : ∃ r, msgid_Make.f a = some r ∧ missiveref12_Make.f k a = some r := by
  obtain ⟨T, hT⟩ : ∃ T, (a ++ (⟨#[0, 0, 0, 0, 0, 0, 0, 0, 0, 0]⟩ : ByteArray)).extract 0 10 = T := ⟨_, rfl⟩
  have hTs : T.size = 10 := by
    rw [← hT, ← dl_length, dl_extract, dl_append, List.drop_zero, List.length_take]
    simp only [List.length_append, dl_length]
    show min 10 (a.size + 10) = 10
    omega
  have h1 := Hex_l0 T (by omega) 10 0 12 [] (by omega) (by omega) (by simp)
  have h2 := refHex_l0 T (by omega) 10 0 k [] (by omega) (by omega) (by simp)
  have hl := hexL_length (dl T)
  rw [dl_length, hTs] at hl
  simp only [List.nil_append, List.drop_zero] at h1 h2
  refine ⟨strOfNums (hexL (dl T)) ++ (⟨#[64, 108, 105, 115, 116, 115, 46, 101, 120, 97, 109, 112, 108, 101]⟩ : ByteArray), ?_, ?_⟩
  · unfold msgid_Make.f msgid_beginning.f digest_Hex.f
    rw [first_eq, hT, wrap_small _ (by omega) (by omega), if_pos (by omega), if_pos (by omega)]
    rw [show ((0 : Nat) : Int) = 0 from rfl] at h1
    rw [h1, Option.bind_some, strOfNums_size, if_pos (by omega)]
    congr 1
    apply dl_ext
    simp only [dl_append, List.append_assoc]
    rfl
  · unfold missiveref12_Make.f missiveref03_Hex.f
    rw [if_pos (by omega), if_pos (by omega), if_pos (by simp only [ByteArray.size_append]; show (10 : Int) ≤ ((a.size + 10 : Nat) : Int); omega), hT]
    rw [show ((0 : Nat) : Int) = 0 from rfl] at h2
    rw [h2, Option.bind_some, strOfNums_size, if_pos (by omega)]

/-! ### Refs -/
theorem In_l0 (l : List ByteArray) (hl : l.length < 9223372036854775807) (x : ByteArray) : ∀ m i k, i + m = l.length → m < k → missiveref12_In.l0 k l x (i : Int) = some (isIn (l.drop i) x)
  | _, _, 0, _, hk => by omega
  | 0, i, k + 1, h, hk => by
    rw [missiveref12_In.l0, if_neg (by omega), List.drop_eq_nil_of_le (by omega)]
    rfl
  | m + 1, i, k + 1, h, hk => by
    have ih := In_l0 l hl x m (i + 1) k (by omega) (by omega)
    push_cast at ih
    rw [missiveref12_In.l0, if_pos (by omega), if_pos (by omega), wrap_small _ (by omega) (by omega), ih, drop_rd (l := l) (i := i) (by omega)]
    by_cases h1 : (rdOf ByteArray.empty l (i : Int)).toList = x.toList
    · rw [if_pos h1, toList_inj h1]
      simp [isIn]
    · rw [if_neg h1]
      have : ¬ rdOf ByteArray.empty l (i : Int) = x := fun e => h1 (by rw [e])
      simp [isIn, this]
theorem In_eq (l : List ByteArray) (hl : l.length < 9223372036854775807) (x : ByteArray) (k : Nat) (hk : l.length < k) : missiveref12_In.f k l x = some (isIn l x) := by
  have := In_l0 l hl x l.length 0 k (Nat.zero_add _) hk
  simpa [missiveref12_In.f] using this
theorem refs_l2 (L : List ByteArray) (hL : L.length ≤ 20000) : ∀ m i k out, i + m = L.length → m + 20010 ≤ k → out.length ≤ i → missiveref12_Refs.l2 k L out (i : Int) = some (cutR (out ++ lastOcc (L.drop i)))
  | _, _, 0, _, _, hk, _ => by omega
  | 0, i, k + 1, out, h, hk, ho => by
    rw [missiveref12_Refs.l2, if_neg (by omega), show L.drop i = [] from List.drop_eq_nil_of_le (by omega), lastOcc, List.append_nil, cutR]
    by_cases h1 : (out.length : Int) > 100
    · rw [if_pos h1, wrap_small _ (by omega) (by omega), if_pos (by omega), if_pos (by omega)]
      congr 2
      omega
    · rw [if_neg h1, show out.length - 100 = 0 by omega, List.drop_zero]
  | m + 1, i, k + 1, out, h, hk, ho => by
    have ih := fun out ho => refs_l2 L hL m (i + 1) k out (by omega) (by omega) ho
    push_cast at ih
    rw [missiveref12_Refs.l2, if_pos (by omega), wrap_small _ (by omega) (by omega), if_pos (by omega), if_pos (by omega), if_pos (by omega), show ((i : Int) + 1).toNat = i + 1 by omega, In_eq _ (by simp; omega) _ k (by simp; omega), Option.bind_some, drop_rd (l := L) (i := i) (by omega)]
    have hoc : lastOcc (rdOf ByteArray.empty L (i : Int) :: L.drop (i + 1)) = if isIn (L.drop (i + 1)) (rdOf ByteArray.empty L (i : Int)) = true then lastOcc (L.drop (i + 1)) else rdOf ByteArray.empty L (i : Int) :: lastOcc (L.drop (i + 1)) := rfl
    rw [hoc]
    by_cases h1 : isIn (L.drop (i + 1)) (rdOf ByteArray.empty L (i : Int)) = true
    · rw [if_pos h1, if_pos h1, ih out (by omega)]
    · rw [if_neg h1, if_neg h1, if_pos (by omega), ih _ (by simp; omega)]
      simp
theorem take_succ_rd {l : List ByteArray} {i : Nat} (h : i < l.length) : l.take (i + 1) = l.take i ++ [rdOf ByteArray.empty l (i : Int)] := by
  rw [List.take_add_one, rd_of h]
  rfl
theorem refs_l1 (a b : List ByteArray) (ha : a.length ≤ 6000) (hb : b.length ≤ 6000) (k0 : Nat) (hk0 : 40000 ≤ k0) : ∀ m i k, i + m = b.length → m + k0 + 2 ≤ k →
    missiveref12_Refs.l1 k a b (a.dropLast ++ others a (b.take i)) (i : Int) = some (cutR (lastOcc (allOf a b)))
  | _, _, 0, _, hk => by omega
  | _, _, 1, _, hk => by omega
  | 0, i, k + 2, h, hk => by
    have hal := allOf_length a b
    have hol := others_length a b
    rw [missiveref12_Refs.l1, if_neg (by omega), List.take_of_length_le (by omega)]
    have hd : a.dropLast.length = a.length - 1 := List.length_dropLast
    have hfin : ∀ L, L = allOf a b → missiveref12_Refs.j2 (k + 1) L = some (cutR (lastOcc (allOf a b))) := by
      rintro L rfl
      rw [missiveref12_Refs.j2]
      have := refs_l2 (allOf a b) (by omega) (allOf a b).length 0 k [] (Nat.zero_add _) (by omega) (by simp)
      simpa using this
    by_cases h1 : (a.length : Int) > 0
    · rw [if_pos h1, wrap_small _ (by omega) (by omega), if_pos (by omega), if_pos (by omega), if_pos (by simp; omega)]
      refine hfin _ ?_
      unfold allOf
      have hg : a.getLast? = some (rdOf ByteArray.empty a ((a.length : Int) - 1)) := by
        rw [List.getLast?_eq_getElem?, show ((a.length : Int) - 1) = ((a.length - 1 : Nat) : Int) by omega]
        exact rd_of (by omega)
      rw [hg]
    · rw [if_neg h1]
      refine hfin _ ?_
      have : a = [] := List.eq_nil_of_length_eq_zero (by omega)
      subst this
      rfl
  | m + 1, i, k + 2, h, hk => by
    have ih := refs_l1 a b ha hb k0 hk0 m (i + 1) (k + 1) (by omega) (by omega)
    push_cast at ih
    have hol := others_length a (b.take i)
    have hd : a.dropLast.length = a.length - 1 := List.length_dropLast
    rw [List.length_take] at hol
    rw [missiveref12_Refs.l1, if_pos (by omega), if_pos (by omega), In_eq a (by omega) _ (k + 1) (by omega), Option.bind_some, wrap_small _ (by omega) (by omega)]
    rw [take_succ_rd (by omega)] at ih
    by_cases h1 : isIn a (rdOf ByteArray.empty b (i : Int)) = true
    · rw [if_pos h1]
      rw [show others a (b.take i ++ [rdOf ByteArray.empty b (i : Int)]) = others a (b.take i) by simp [others, h1]] at ih
      exact ih
    · rw [if_neg h1, if_pos (by simp; omega)]
      rw [show others a (b.take i ++ [rdOf ByteArray.empty b (i : Int)]) = others a (b.take i) ++ [rdOf ByteArray.empty b (i : Int)] by simp [others, h1], ← List.append_assoc] at ih
      exact ih
theorem refs_l0 (a b : List ByteArray) (ha : a.length ≤ 6000) (hb : b.length ≤ 6000) : ∀ m i k, i + m = a.length - 1 → m + 50000 ≤ k →
    missiveref12_Refs.l0 k a b (a.take i) (i : Int) = some (cutR (lastOcc (allOf a b)))
  | _, _, 0, _, hk => by omega
  | 0, i, k + 1, h, hk => by
    rw [missiveref12_Refs.l0, wrap_small _ (by omega) (by omega), if_neg (by omega)]
    have h1 := refs_l1 a b ha hb 40000 (Nat.le_refl _) b.length 0 k (Nat.zero_add _) (by omega)
    rw [List.take_zero, show others a [] = [] from rfl, List.append_nil, List.dropLast_eq_take] at h1
    rw [show i = a.length - 1 by omega]
    exact h1
  | m + 1, i, k + 1, h, hk => by
    have ih := refs_l0 a b ha hb m (i + 1) k (by omega) (by omega)
    push_cast at ih
    rw [missiveref12_Refs.l0, wrap_small _ (by omega) (by omega), if_pos (by omega), if_pos (by omega), if_pos (by omega), if_pos (by simp; omega)]
    rw [take_succ_rd (by omega)] at ih
    exact ih
theorem refRefs_eq (l : List S37) (hl : Small l) (k : Nat) (hk : 60000 ≤ k) : missiveref12_Refs.f k l = some (refsL l) := by
  have h1 := getL_size l hl (dl nmR)
  have h2 := getL_size l hl (dl nmI)
  have ha := idsF_length l hl nmR
  have hb := idsF_length l hl nmI
  unfold missiveref12_Refs.f
  rw [show (⟨#[82, 101, 102, 101, 114, 101, 110, 99, 101, 115]⟩ : ByteArray) = nmR from rfl, show (⟨#[73, 110, 45, 82, 101, 112, 108, 121, 45, 84, 111]⟩ : ByteArray) = nmI from rfl,
    refGet_eq l hl nmR (by decide) k (by omega), Option.bind_some, refGet_eq l hl nmI (by decide) k (by omega), Option.bind_some, refIds_eq _ (by omega) k (by omega), Option.bind_some, refIds_eq _ (by omega) k (by omega), Option.bind_some]
  exact refs_l0 (idsF l nmR) (idsF l nmI) ha hb _ 0 k (Nat.zero_add _) (by omega)
theorem refsL_length (l : List S37) (hl : Small l) : (refsL l).length ≤ 12000 := by
  have ha := idsF_length l hl nmR
  have hb := idsF_length l hl nmI
  have h1 := allOf_length (idsF l nmR) (idsF l nmI)
  have h2 := lastOcc_length (allOf (idsF l nmR) (idsF l nmI))
  unfold refsL cutR
  rw [List.length_drop]
  omega

theorem MsgidTells_true (s : ByteArray) (l : List S37) (hl : l.length ≤ 9223372036854775807) : ∃ k, missivelaw12_MsgidTells.f k s l = some true := by
  refine ⟨l.length + 80000, ?_⟩
  obtain ⟨k, hk⟩ : ∃ k, l.length + 80000 = k + 2 := ⟨l.length + 79998, by omega⟩
  rw [hk]
  unfold missivelaw12_MsgidTells.f
  rw [small_true _ (by omega), Option.bind_some]
  by_cases h1 : (s.size : Int) > 1000
  · rw [if_pos h1, missivelaw12_MsgidTells.j0, if_pos rfl]
  rw [if_neg h1]
  obtain ⟨b, hb, hb2⟩ := few_eq l hl
  rw [hb _ (by omega), Option.bind_some, missivelaw12_MsgidTells.j0]
  cases b with
  | false => rw [if_pos (show (!false) = true from rfl)]
  | true =>
    have hS := hb2 rfl
    have hlen := refsL_length l hS
    obtain ⟨r, hm1, hm2⟩ := Make_eq s (by omega) (k + 1) (by omega)
    rw [if_neg (by simp), First_eq s (by omega) _ (by omega), refFirst_eq s (by omega) _ (by omega), Option.bind_some, Option.bind_some, Own_eq l hS _ (by omega)]
    obtain ⟨o, ho⟩ : ∃ o, missiveref12_Own.f (k + 1) l = some o := by
      unfold missiveref12_Own.f
      rw [refGet_eq l hS _ (by decide) _ (by omega), Option.bind_some, refFirst_eq _ (by have := getL_size l hS (dl (⟨#[77, 101, 115, 115, 97, 103, 101, 45, 73, 68]⟩ : ByteArray)); omega) _ (by have := getL_size l hS (dl (⟨#[77, 101, 115, 115, 97, 103, 101, 45, 73, 68]⟩ : ByteArray)); omega), Option.bind_some]
      exact ⟨_, rfl⟩
    rw [ho, Option.bind_some, Option.bind_some, if_pos (by cases idsL (dl s) <;> rfl), if_neg (by cases idsL (dl s) <;> simp), if_pos rfl, if_neg (by simp), Valid_eq s _ (by omega), refValid_eq s _ (by omega), Option.bind_some, Option.bind_some, if_neg (by simp), hm1, hm2, Option.bind_some, Option.bind_some,
      missivelaw12_MsgidTells.j1, if_neg (by simp), if_pos rfl, Ids_eq s (by omega) _ (by omega), refIds_eq s (by omega) _ (by omega), Option.bind_some, Option.bind_some,
      SameTexts_refl _ (by have := idsL_length (dl s); rw [dl_length] at this; omega) _ (by have := idsL_length (dl s); rw [dl_length] at this; omega), Option.bind_some, if_pos rfl, Refs_eq l hS _ (by omega), refRefs_eq l hS _ (by omega), Option.bind_some, Option.bind_some,
      SameTexts_refl _ (by omega) _ (by omega), Option.bind_some]
end Go.Proofs.YtlldpjcnkckclaaDoor.PA
