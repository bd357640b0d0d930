/- MsgidIds is true at every input: plain Lean. -/
import Derived.Test.YtlldpjcnkckclaaDoorPureB
import Derived.Test.YtlldpjcnkckclaaDoorPAx8
namespace Go.Proofs.YtlldpjcnkckclaaDoor.PA
open Go.RowKit Go.Proofs.YtlldpjcnkckclaaDoorW.PrintWords Go.Proofs.YtlldpjcnkckclaaDoorW.PrintLast Go.Proofs.YtlldpjcnkckclaaDoorW.PrintMore
set_option linter.unusedVariables false
set_option linter.unusedSimpArgs false

def noBr (c : UInt8) : Bool := !(decide ((c.toNat : Int) = 60)) && !(decide ((c.toNat : Int) = 62))
theorem noBr_of_good {c : UInt8} (h : good c = true) : noBr c = true := by
  unfold good goodI at h
  unfold noBr
  revert h
  cases decide ((c.toNat : Int) = 60) <;> cases decide ((c.toNat : Int) = 62) <;> simp
theorem scan_none (l r : List UInt8) (h : l.all noBr = true) : scan (l ++ r) none = scan r none := by
  induction l with
  | nil => rfl
  | cons c t ih =>
    simp only [List.all_cons, Bool.and_eq_true, noBr, Bool.not_eq_true', decide_eq_false_iff_not] at h
    rw [List.cons_append, scan, if_neg h.1.1, if_neg h.1.2]
    exact ih h.2
theorem scan_some (l r cur : List UInt8) (h : l.all noBr = true) : scan (l ++ r) (some cur) = scan r (some (cur ++ l)) := by
  induction l generalizing cur with
  | nil => simp
  | cons c t ih =>
    simp only [List.all_cons, Bool.and_eq_true, noBr, Bool.not_eq_true', decide_eq_false_iff_not] at h
    rw [List.cons_append, scan, if_neg h.1.1, if_neg h.1.2, Option.map_some, ih _ h.2]
    simp
theorem vL_good {l : List UInt8} (h : vL l = true) : l.all noBr = true ∧ l.length ≤ 250 := by
  simp only [vL, Bool.and_eq_true, decide_eq_true_eq] at h
  exact ⟨by rw [List.all_eq_true]; intro c hc; exact noBr_of_good (List.all_eq_true.1 h.2.2.1 c hc), h.2.1⟩
theorem scan_valid : ∀ (l : List UInt8) (o : Option (List UInt8)), ∀ x ∈ scan l o, vL (dl x) = true
  | [], _ => by intro x hx; simp [scan] at hx
  | c :: t, o => by
    intro x hx
    rw [scan] at hx
    split at hx
    · exact scan_valid t _ x hx
    split at hx
    · rcases List.mem_append.1 hx with h | h
      · unfold flush at h
        split at h
        · split at h
          · rename_i hv
            rw [List.mem_singleton] at h
            rw [h]
            simpa [dl] using hv
          · cases h
        · cases h
      · exact scan_valid t _ x h
    · exact scan_valid t _ x hx
theorem flush_length (o : Option (List UInt8)) : (flush o).length ≤ 1 := by
  unfold flush
  split
  · split <;> simp
  · simp
theorem scan_length : ∀ (l : List UInt8) (o : Option (List UInt8)), (scan l o).length ≤ l.length
  | [], _ => by simp [scan]
  | c :: t, o => by
    rw [scan]
    split
    · have := scan_length t (some [])
      simp; omega
    split
    · have := scan_length t none
      have := flush_length o
      simp; omega
    · have := scan_length t (o.map (· ++ [c]))
      simp; omega

theorem Same_refl (a : List ByteArray) (ha : a.length < 9223372036854775807) : ∀ m i k, i + m = a.length → m < k → missiveref09_SameTexts.l0 k a a (i : Int) = some true
  | _, _, 0, _, hk => by omega
  | 0, i, k + 1, h, hk => by rw [missiveref09_SameTexts.l0, if_neg (by omega)]
  | m + 1, i, k + 1, h, hk => by
    have ih := Same_refl a ha m (i + 1) k (by omega) (by omega)
    push_cast at ih
    rw [missiveref09_SameTexts.l0, if_pos (by omega), if_pos (by omega), if_pos (by omega), if_pos rfl, wrap_small _ (by omega) (by omega), ih]
theorem SameTexts_refl (a : List ByteArray) (ha : a.length < 9223372036854775807) (k : Nat) (hk : a.length < k) : missiveref09_SameTexts.f k a a = some true := by
  unfold missiveref09_SameTexts.f
  rw [if_pos rfl]
  exact Same_refl a ha a.length 0 k (by omega) hk
theorem First_eq (s : ByteArray) (hs : s.size < 8796093022208) (k : Nat) (hk : s.size + 300 ≤ k) :
    msgid_First.f k s = some (match idsL (dl s) with | [] => ((⟨#[]⟩ : ByteArray), false) | x :: _ => (x, true)) := by
  unfold msgid_First.f
  rw [Ids_eq s hs k hk, Option.bind_some]
  cases idsL (dl s) with
  | nil => rfl
  | cons x t =>
    rw [if_pos (by simp), if_pos (by simp)]
    rfl

/-! ### the loops of the law -/
section
variable (ids btw : List ByteArray) (value : ByteArray)
def Pre (i : Nat) (s : ByteArray) : Prop := s.size ≤ 352 * i ∧ ∀ rest, scan (dl s ++ rest) none = ids.take i ++ scan rest none

theorem l2_true (hn : ids.length ≤ 30) (s : ByteArray) (hs : s.size ≤ 20000) (hP : idsL (dl s) = ids) (l : List ByteArray) (hl : ∀ x ∈ l, vL (dl x) = true) (hll : l.length ≤ 1000) :
    ∀ m i k, i + m = l.length → 21000 + m ≤ k → missivelaw12_MsgidIds.l2 k ids true s l (i : Int) = some true
  | _, _, 0, _, hk => by omega
  | 0, i, k + 1, h, hk => by
    rw [missivelaw12_MsgidIds.l2, if_neg (by omega), First_eq s (by omega) k (by omega), Option.bind_some, if_pos rfl, Ids_eq s (by omega) k (by omega), Option.bind_some, hP, SameTexts_refl ids (by omega) k (by omega), Option.bind_some, if_pos rfl]
    cases ids with
    | nil => rfl
    | cons x t =>
      rw [if_pos (by simp)]
      rw [if_pos rfl, if_pos (by simp)]
      simp [rdOf]
  | m + 1, i, k + 1, h, hk => by
    have ih := l2_true hn s hs hP l hl hll m (i + 1) k (by omega) (by omega)
    push_cast at ih
    have hm : rdOf ByteArray.empty l (i : Int) ∈ l := by
      have hi : i < l.length := by omega
      simp only [rdOf, Int.toNat_natCast, List.getD, List.getElem?_eq_getElem hi, Option.getD_some]
      exact List.getElem_mem hi
    rw [missivelaw12_MsgidIds.l2, if_pos (by omega), if_pos (by omega), Valid_eq _ k (by omega), Option.bind_some, if_pos (hl _ hm), wrap_small _ (by omega) (by omega), ih]

theorem dl_append (a b : ByteArray) : dl (a ++ b) = dl a ++ dl b := by simp [dl, ByteArray.data_append]
theorem pre_next {i : Nat} {s b x : ByteArray} (hp : Pre ids i s) (hx : ids[i]? = some x) (hb : (dl b).all noBr = true) (hbs : b.size ≤ 100) (hv : vL (dl x) = true) :
    Pre ids (i + 1) ((((s ++ b) ++ (⟨#[60]⟩ : ByteArray)) ++ x) ++ (⟨#[62]⟩ : ByteArray)) := by
  obtain ⟨hxn, hxs⟩ := vL_good hv
  rw [dl_length] at hxs
  refine ⟨?_, fun rest => ?_⟩
  · have := hp.1
    simp only [ByteArray.size_append]
    show s.size + b.size + 1 + x.size + 1 ≤ _
    omega
  · simp only [dl_append]
    show scan ((((dl s ++ dl b) ++ [60]) ++ dl x) ++ [62] ++ rest) none = _
    rw [show (((dl s ++ dl b) ++ [60]) ++ dl x) ++ [62] ++ rest = dl s ++ (dl b ++ (60 :: (dl x ++ (62 :: rest)))) by simp]
    rw [hp.2, scan_none _ _ hb, scan, if_pos (by decide), scan_some _ _ _ hxn, scan, if_neg (by decide), if_pos (by decide), List.nil_append]
    have e : flush (some (dl x)) = [x] := by
      simp only [flush, hv, if_true]
    rw [e, List.take_add_one, hx]
    simp
theorem rd_of {l : List ByteArray} {i : Nat} (h : i < l.length) : l[i]? = some (rdOf ByteArray.empty l (i : Int)) := by
  simp [rdOf, List.getD, List.getElem?_eq_getElem h]

variable (hn : ids.length ≤ 30) (hb : ids.length ≤ btw.length) (hv : value.size ≤ 1000)
include hn hb
theorem l1_true (m i : Nat) (hi : i < ids.length) (s : ByteArray) (hp : Pre ids i s) (hx : vL (dl (rdOf ByteArray.empty ids (i : Int))) = true) (hbs : (rdOf ByteArray.empty btw (i : Int)).size ≤ 100)
    (next : ∀ s', Pre ids (i + 1) s' → ∀ k, 23000 + 200 * m ≤ k → missivelaw12_MsgidIds.l0 k ids btw value true s' ((i + 1 : Nat) : Int) = some true) :
    ∀ mm j k, j + mm = (rdOf ByteArray.empty btw (i : Int)).size → ((dl (rdOf ByteArray.empty btw (i : Int))).take j).all noBr = true → 23000 + 200 * m + mm + 1 ≤ k →
      missivelaw12_MsgidIds.l1 k ids btw value true s (i : Int) (j : Int) = some true
  | _, _, 0, _, _, hk => by omega
  | 0, j, k + 1, h, ha, hk => by
    have hle := hp.1
    obtain ⟨hxn, hxs⟩ := vL_good hx
    rw [dl_length] at hxs
    rw [missivelaw12_MsgidIds.l1, if_pos (by omega), if_pos (by omega), if_neg (by omega), if_pos (by omega), if_pos (by omega), if_pos (by omega), if_pos (by omega), if_pos (by omega), wrap_small _ (by omega) (by omega)]
    have hb' : (dl (rdOf ByteArray.empty btw (i : Int))).all noBr = true := by
      rw [List.take_of_length_le (by rw [dl_length]; omega)] at ha
      exact ha
    have h2 := next _ (pre_next ids hp (rd_of hi) hb' hbs hx) k (by omega)
    push_cast at h2
    exact h2
  | mm + 1, j, k + 1, h, ha, hk => by
    obtain ⟨c, hd, hbt, hc⟩ := bt_drop (rdOf ByteArray.empty btw (i : Int)) j (by omega)
    rw [missivelaw12_MsgidIds.l1, if_pos (by omega), if_pos (by omega), if_pos (by omega), if_pos (by omega), hbt, wrap_small _ (by omega) (by omega)]
    by_cases h1 : (c.toNat : Int) = 60
    · rw [if_pos h1]
    rw [if_neg h1]
    by_cases h2 : (c.toNat : Int) = 62
    · rw [if_pos h2]
    rw [if_neg h2]
    have ih := l1_true m i hi s hp hx hbs next mm (j + 1) k (by omega) (by
      rw [List.take_add_one, hc]
      simp [List.all_append, ha, noBr, h1, h2]) (by omega)
    push_cast at ih
    exact ih
include hv
theorem l0_true : ∀ m i, i + m = ids.length → ∀ s, Pre ids i s → ∀ k, 23000 + 200 * m ≤ k → missivelaw12_MsgidIds.l0 k ids btw value true s (i : Int) = some true
  | 0, i, h, s, hp, k, hk => by
    obtain ⟨k, rfl⟩ : ∃ j, k = j + 1 := ⟨k - 1, by omega⟩
    have hle := hp.1
    rw [missivelaw12_MsgidIds.l0, if_neg (by omega), Ids_eq value (by omega) k (by omega), Option.bind_some]
    have hP : idsL (dl s) = ids := by
      have := hp.2 []
      rw [List.append_nil] at this
      rw [idsL, this, List.take_of_length_le (by omega)]
      simp [scan]
    have hlen := scan_length (dl value) none
    rw [dl_length] at hlen
    exact l2_true ids hn s (by omega) hP _ (scan_valid (dl value) none) (by omega) _ 0 k (Nat.zero_add _) (by omega)
  | m + 1, i, h, s, hp, k, hk => by
    obtain ⟨k, rfl⟩ : ∃ j, k = j + 3 := ⟨k - 3, by omega⟩
    rw [missivelaw12_MsgidIds.l0, if_pos (by omega), if_pos (by omega), Valid_eq _ _ (by omega), Option.bind_some]
    by_cases hx : vL (dl (rdOf ByteArray.empty ids (i : Int))) = true
    · rw [if_pos hx, if_pos (by omega), missivelaw12_MsgidIds.j2]
      by_cases hbs : ((rdOf ByteArray.empty btw (i : Int)).size : Int) > 100
      · rw [if_pos (by simpa using hbs)]
      · rw [if_neg (by simpa using hbs)]
        exact l1_true ids btw value hn hb m i (by omega) s hp hx (by omega) (fun s' hp' k' hk' => l0_true m (i + 1) (by omega) s' hp' k' hk') _ 0 _ (Nat.zero_add _) (by simp) (by omega)
    · rw [if_neg hx, missivelaw12_MsgidIds.j2, if_pos rfl]
end
theorem MsgidIds_true (ids btw : List ByteArray) (value : ByteArray) : ∃ k, missivelaw12_MsgidIds.f k ids btw value = some true := by
  refine ⟨40000, ?_⟩
  unfold missivelaw12_MsgidIds.f
  rw [small_true 40000 (by omega), Option.bind_some]
  by_cases h1 : (ids.length : Int) > 30
  · rw [if_pos h1, missivelaw12_MsgidIds.j0, if_pos rfl]
  rw [if_neg h1]
  by_cases h2 : (btw.length : Int) < (ids.length : Int)
  · rw [if_pos h2, missivelaw12_MsgidIds.j0, if_pos rfl]
  rw [if_neg h2, missivelaw12_MsgidIds.j0]
  by_cases h3 : (value.size : Int) > 1000
  · rw [if_pos (by simpa using h3)]
  · rw [if_neg (by simpa using h3)]
    exact l0_true ids btw value (by omega) (by omega) (by omega) ids.length 0 (Nat.zero_add _) _ ⟨by simp [ByteArray.size], fun rest => by simp [dl]⟩ _ (by omega)
end Go.Proofs.YtlldpjcnkckclaaDoor.PA
