/- Plain laws for MsgidTells, MsgidReplies and MsgidRefs: the fields, Get, the references' list functions. -/
import Derived.Test.YtlldpjcnkckclaaDoorPureB
import Derived.Test.YtlldpjcnkckclaaDoorPAx6
namespace Go.Proofs.YtlldpjcnkckclaaDoor.PA
open Go.RowKit Go.Proofs.YtlldpjcnkckclaaDoorW.PrintWords Go.Proofs.YtlldpjcnkckclaaDoorW.PrintLast Go.Proofs.YtlldpjcnkckclaaDoorW.PrintMore
set_option linter.unusedVariables false
set_option linter.unusedSimpArgs false

def noBr (c : UInt8) : Bool := !(decide ((c.toNat : Int) = 60)) && !(decide ((c.toNat : Int) = 62))
theorem noBr_of_good {c : UInt8} (h : good c = true) : noBr c = true := by
  unfold good goodI at h
  unfold noBr
  revert h
  cases decide ((c.toNat : Int) = 60) <;> cases decide ((c.toNat : Int) = 62) <;> simp
theorem scan_none (l r : List UInt8) (h : l.all noBr = true) : scan (l ++ r) none = scan r none := by
  induction l with
  | nil => rfl
  | cons c t ih =>
    simp only [List.all_cons, Bool.and_eq_true, noBr, Bool.not_eq_true', decide_eq_false_iff_not] at h
    rw [List.cons_append, scan, if_neg h.1.1, if_neg h.1.2]
    exact ih h.2
theorem scan_some (l r cur : List UInt8) (h : l.all noBr = true) : scan (l ++ r) (some cur) = scan r (some (cur ++ l)) := by
  induction l generalizing cur with
  | nil => simp
  | cons c t ih =>
    simp only [List.all_cons, Bool.and_eq_true, noBr, Bool.not_eq_true', decide_eq_false_iff_not] at h
    rw [List.cons_append, scan, if_neg h.1.1, if_neg h.1.2, Option.map_some, ih _ h.2]
    simp
theorem vL_good {l : List UInt8} (h : vL l = true) : l.all noBr = true ∧ l.length ≤ 250 := by
  simp only [vL, Bool.and_eq_true, decide_eq_true_eq] at h
  exact ⟨by rw [List.all_eq_true]; intro c hc; exact noBr_of_good (List.all_eq_true.1 h.2.2.1 c hc), h.2.1⟩
theorem scan_valid : ∀ (l : List UInt8) (o : Option (List UInt8)), ∀ x ∈ scan l o, vL (dl x) = true
  | [], _ => by intro x hx; simp [scan] at hx
  | c :: t, o => by
    intro x hx
    rw [scan] at hx
    split at hx
    · exact scan_valid t _ x hx
    split at hx
    · rcases List.mem_append.1 hx with h | h
      · unfold flush at h
        split at h
        · split at h
          · rename_i hv
            rw [List.mem_singleton] at h
            rw [h]
            simpa [dl] using hv
          · cases h
        · cases h
      · exact scan_valid t _ x h
    · exact scan_valid t _ x hx
theorem flush_length (o : Option (List UInt8)) : (flush o).length ≤ 1 := by
  unfold flush
  split
  · split <;> simp
  · simp
theorem scan_length : ∀ (l : List UInt8) (o : Option (List UInt8)), (scan l o).length ≤ l.length
  | [], _ => by simp [scan]
  | c :: t, o => by
    rw [scan]
    split
    · have := scan_length t (some [])
      simp; omega
    split
    · have := scan_length t none
      have := flush_length o
      simp; omega
    · have := scan_length t (o.map (· ++ [c]))
      simp; omega

theorem Same_refl (a : List ByteArray) (ha : a.length < 9223372036854775807) : ∀ m i k, i + m = a.length → m < k → missiveref09_SameTexts.l0 k a a (i : Int) = some true
  | _, _, 0, _, hk => by omega
  | 0, i, k + 1, h, hk => by rw [missiveref09_SameTexts.l0, if_neg (by omega)]
  | m + 1, i, k + 1, h, hk => by
    have ih := Same_refl a ha m (i + 1) k (by omega) (by omega)
    push_cast at ih
    rw [missiveref09_SameTexts.l0, if_pos (by omega), if_pos (by omega), if_pos (by omega), if_pos rfl, wrap_small _ (by omega) (by omega), ih]
theorem SameTexts_refl (a : List ByteArray) (ha : a.length < 9223372036854775807) (k : Nat) (hk : a.length < k) : missiveref09_SameTexts.f k a a = some true := by
  unfold missiveref09_SameTexts.f
  rw [if_pos rfl]
  exact Same_refl a ha a.length 0 k (by omega) hk
theorem First_eq (s : ByteArray) (hs : s.size < 8796093022208) (k : Nat) (hk : s.size + 300 ≤ k) :
    msgid_First.f k s = some (match idsL (dl s) with | [] => ((⟨#[]⟩ : ByteArray), false) | x :: _ => (x, true)) := by
  unfold msgid_First.f
  rw [Ids_eq s hs k hk, Option.bind_some]
  cases idsL (dl s) with
  | nil => rfl
  | cons x t =>
    rw [if_pos (by simp), if_pos (by simp)]
    rfl

theorem dl_append (a b : ByteArray) : dl (a ++ b) = dl a ++ dl b := by simp [dl, ByteArray.data_append]
theorem rd_of {l : List ByteArray} {i : Nat} (h : i < l.length) : l[i]? = some (rdOf ByteArray.empty l (i : Int)) := by
  simp [rdOf, List.getD, List.getElem?_eq_getElem h]


theorem rd_mem {l : List ByteArray} {i : Nat} (h : i < l.length) : rdOf ByteArray.empty l (i : Int) ∈ l := by
  simp only [rdOf, Int.toNat_natCast, List.getD, List.getElem?_eq_getElem h, Option.getD_some]
  exact List.getElem_mem h
theorem rdT_of {l : List S37} {i : Nat} (h : i < l.length) : l[i]? = some (rd_T37 l (i : Int)) := by
  simp [rd_T37, List.getD, List.getElem?_eq_getElem h]
theorem drop_rdT {l : List S37} {i : Nat} (h : i < l.length) : l.drop i = rd_T37 l (i : Int) :: l.drop (i + 1) := by
  rw [List.drop_eq_getElem_cons h]
  congr 1
  have := rdT_of h
  rw [List.getElem?_eq_getElem h] at this
  exact Option.some.inj this
theorem drop_rd {l : List ByteArray} {i : Nat} (h : i < l.length) : l.drop i = rdOf ByteArray.empty l (i : Int) :: l.drop (i + 1) := by
  rw [List.drop_eq_getElem_cons h]
  congr 1
  have := rd_of h
  rw [List.getElem?_eq_getElem h] at this
  exact Option.some.inj this

/-! ### few -/
def Small (l : List S37) : Prop := l.length ≤ 20 ∧ ∀ x ∈ l, x.f0.size ≤ 6000 ∧ x.f1.size ≤ 6000
theorem few_l0 (l : List S37) (hl : l.length ≤ 9223372036854775807) : ∀ m i k (x : Int), i + m = l.length → m < k →
    ∃ b, missivelaw12_few.l0 k l x (i : Int) = some b ∧ (b = true → l.length ≤ 20 ∧ ∀ y ∈ l.drop i, y.f0.size ≤ 6000 ∧ y.f1.size ≤ 6000)
  | _, _, 0, _, _, hk => by omega
  | 0, i, k + 1, x, h, hk => by
    rw [missivelaw12_few.l0, if_neg (by omega), List.drop_eq_nil_of_le (by omega)]
    by_cases h1 : (l.length : Int) ≤ 20
    · exact ⟨_, if_pos h1, fun _ => ⟨by omega, by simp⟩⟩
    · exact ⟨false, if_neg h1, by simp⟩
  | m + 1, i, k + 1, x, h, hk => by
    rw [missivelaw12_few.l0, if_pos (by omega), if_pos (by omega), drop_rdT (by omega)]
    by_cases h1 : ((rd_T37 l (i : Int)).f0.size : Int) > 6000
    · exact ⟨false, if_pos h1, by simp⟩
    by_cases h2 : ((rd_T37 l (i : Int)).f1.size : Int) > 6000
    · exact ⟨false, by rw [if_neg h1, if_pos h2], by simp⟩
    rw [if_neg h1, if_neg h2, wrap_small ((i : Int) + 1) (by omega) (by omega)]
    obtain ⟨b, hb, hb2⟩ := few_l0 l hl m (i + 1) k (wrap64 ((wrap64 (x + ((rd_T37 l (i : Int)).f0.size : Int))) + ((rd_T37 l (i : Int)).f1.size : Int))) (by omega) (by omega)
    push_cast at hb
    refine ⟨b, hb, fun e => ⟨(hb2 e).1, fun y hy => ?_⟩⟩
    rcases List.mem_cons.1 hy with rfl | hy
    · exact ⟨by omega, by omega⟩
    · exact (hb2 e).2 y hy
theorem few_eq (l : List S37) (hl : l.length ≤ 9223372036854775807) : ∃ b, (∀ k, l.length < k → missivelaw12_few.f k l = some b) ∧ (b = true → Small l) := by
  obtain ⟨b, h, h2⟩ := few_l0 l hl l.length 0 (l.length + 1) 0 (Nat.zero_add _) (Nat.lt_succ_self _)
  refine ⟨b, fun k hk => ?_, fun e => ⟨(h2 e).1, fun x hx => (h2 e).2 x (by simpa using hx)⟩⟩
  exact up (f := fun k => missivelaw12_few.f k l) (fun k => missivelaw12_few.mono l k) (by simpa [missivelaw12_few.f] using h) k (by omega)

/-! ### the names' equality -/
def lowB (c : UInt8) : Int := Hand.lowI (c.toNat : Int)
def sameL (a b : List UInt8) : Bool := decide (a.map lowB = b.map lowB)
theorem text_lower_eq (c : UInt8) : text_lower.f (c.toNat : Int) = some (lowB c) := by
  have h := c.toNat_lt
  unfold text_lower.f lowB Hand.lowI
  by_cases h1 : (65 : Int) ≤ (c.toNat : Int)
  · by_cases h2 : (c.toNat : Int) ≤ 90
    · rw [if_pos h1, if_pos h2, if_pos ⟨h1, h2⟩]
      congr 1
      omega
    · rw [if_pos h1, if_neg h2, if_neg (by omega)]
  · rw [if_neg h1, if_neg (by omega)]
theorem text_Same_l0 (a b : ByteArray) (hs : a.size = b.size) (hl : a.size < 9223372036854775807) : ∀ m i k, i + m = a.size → m < k →
    text_Same.l0 k a b (a.size : Int) (i : Int) = some (sameL ((dl a).drop i) ((dl b).drop i))
  | _, _, 0, _, hk => by omega
  | 0, i, k + 1, h, hk => by
    rw [text_Same.l0, if_neg (by omega), List.drop_eq_nil_of_le (by rw [dl_length]; omega), List.drop_eq_nil_of_le (by rw [dl_length]; omega)]
    rfl
  | m + 1, i, k + 1, h, hk => by
    obtain ⟨c, hd, hb, _⟩ := bt_drop a i (by omega)
    obtain ⟨c', hd', hb', _⟩ := bt_drop b i (by omega)
    have ih := text_Same_l0 a b hs hl m (i + 1) k (by omega) (by omega)
    push_cast at ih
    rw [text_Same.l0, if_pos (by omega), if_pos (by omega), if_pos (by omega), hb, text_lower_eq, Option.bind_some, if_pos (by omega), hb', text_lower_eq, Option.bind_some, wrap_small _ (by omega) (by omega), ih, hd, hd']
    by_cases h1 : lowB c = lowB c'
    · rw [if_pos h1]
      simp [sameL, h1]
    · rw [if_neg h1]
      simp [sameL, h1]
theorem text_Same_eq (a b : ByteArray) (ha : a.size < 9223372036854775807) (k : Nat) (hk : a.size < k) : text_Same.f k a b = some (sameL (dl a) (dl b)) := by
  unfold text_Same.f
  by_cases h : (a.size : Int) = (b.size : Int)
  · rw [if_pos h]
    exact text_Same_l0 a b (by omega) ha a.size 0 k (Nat.zero_add _) hk
  · rw [if_neg h]
    congr 1
    symm
    unfold sameL
    refine decide_eq_false fun e => h ?_
    have := congrArg List.length e
    simp only [List.length_map, dl_length] at this
    omega
theorem lowNums_eq (a : ByteArray) : Hand.lowNums a = (dl a).map lowB := rfl
theorem lowB_range (c : UInt8) : 0 ≤ lowB c ∧ lowB c < 256 := by
  have h := c.toNat_lt
  unfold lowB Hand.lowI
  split <;> omega
theorem toList_inj {a b : ByteArray} (h : a.toList = b.toList) : a = b := by
  rw [ByteArray.toList_eq, ByteArray.toList_eq] at h
  exact dl_ext h
theorem strOfNums_inj {xs ys : List Int} (hx : ∀ x ∈ xs, 0 ≤ x ∧ x < 256) (hy : ∀ x ∈ ys, 0 ≤ x ∧ x < 256) (h : strOfNums xs = strOfNums ys) : xs = ys := by
  have h2 : xs.map (fun n => UInt8.ofNat n.toNat) = ys.map (fun n => UInt8.ofNat n.toNat) := by
    have := congrArg (fun s => s.data.toList) h
    simpa [strOfNums] using this
  induction xs generalizing ys with
  | nil => cases ys with
    | nil => rfl
    | cons => simp at h2
  | cons x xs ih => cases ys with
    | nil => simp at h2
    | cons y ys =>
      simp only [List.map_cons, List.cons.injEq] at h2
      have hx0 := hx x (by simp)
      have hy0 := hy y (by simp)
      have e : x = y := by
        have := congrArg UInt8.toNat h2.1
        simp only [UInt8.toNat_ofNat'] at this
        omega
      rw [e, ih (fun z hz => hx z (by simp [hz])) (fun z hz => hy z (by simp [hz])) (by simp [strOfNums, h2.2]) h2.2]
theorem ref_Same_eq (a b : ByteArray) (ha : a.size ≤ 140737488355328) (hb : b.size ≤ 140737488355328) : missiveref01_Same.f a b = some (sameL (dl a) (dl b)) := by
  unfold missiveref01_Same.f missiveref01_Lower.f Hand.lowerF
  rw [if_pos ha, if_pos hb, Option.bind_some, Option.bind_some, lowNums_eq, lowNums_eq]
  congr 1
  unfold sameL
  by_cases h : (dl a).map lowB = (dl b).map lowB
  · rw [h]
    simp
  · rw [decide_eq_false h]
    refine beq_eq_false_iff_ne.2 fun e => h ?_
    refine strOfNums_inj ?_ ?_ (toList_inj e)
    · intro x hx
      obtain ⟨c, _, rfl⟩ := List.mem_map.1 hx
      exact lowB_range c
    · intro x hx
      obtain ⟨c, _, rfl⟩ := List.mem_map.1 hx
      exact lowB_range c

/-! ### Get -/
def getL : List S37 → List UInt8 → ByteArray × Bool
  | [], _ => ((⟨#[]⟩ : ByteArray), false)
  | x :: t, nm => if sameL (dl x.f0) nm = true then (x.f1, true) else getL t nm
theorem Get_l0 (l : List S37) (hl : Small l) (nm : ByteArray) : ∀ m i k, i + m = l.length → m + 6010 ≤ k → header_Get.l0 k nm l (l.length : Int) (i : Int) = some (getL (l.drop i) (dl nm))
  | _, _, 0, _, hk => by omega
  | 0, i, k + 1, h, hk => by
    rw [header_Get.l0, if_neg (by omega), List.drop_eq_nil_of_le (by omega)]
    rfl
  | m + 1, i, k + 1, h, hk => by
    have ih := Get_l0 l hl nm m (i + 1) k (by omega) (by omega)
    push_cast at ih
    have hlen := hl.1
    have hx := (hl.2 (rd_T37 l (i : Int)) (List.mem_of_getElem? (rdT_of (by omega)))).1
    rw [header_Get.l0, if_pos (by omega), if_pos (by omega), if_pos (by omega), text_Same_eq _ _ (by omega) k (by omega), Option.bind_some, wrap_small _ (by omega) (by omega), ih, drop_rdT (l := l) (i := i) (by omega), getL]
    split <;> rfl
theorem Get_eq (l : List S37) (hl : Small l) (nm : ByteArray) (k : Nat) (hk : 6100 ≤ k) : header_Get.f k l nm = some (getL l (dl nm)) := by
  have hlen := hl.1
  exact Get_l0 l hl nm l.length 0 k (Nat.zero_add _) (by omega)
theorem refGet_l0 (l : List S37) (hl : Small l) (nm : ByteArray) (hn : nm.size ≤ 100) : ∀ m i k, i + m = l.length → m < k → missiveref09_Get.l0 k l nm (i : Int) = some (getL (l.drop i) (dl nm))
  | _, _, 0, _, hk => by omega
  | 0, i, k + 1, h, hk => by
    rw [missiveref09_Get.l0, if_neg (by omega), List.drop_eq_nil_of_le (by omega)]
    rfl
  | m + 1, i, k + 1, h, hk => by
    have ih := refGet_l0 l hl nm hn m (i + 1) k (by omega) (by omega)
    push_cast at ih
    have hlen := hl.1
    have hx := (hl.2 (rd_T37 l (i : Int)) (List.mem_of_getElem? (rdT_of (by omega)))).1
    rw [missiveref09_Get.l0, if_pos (by omega), if_pos (by omega), ref_Same_eq _ _ (by omega) (by omega), Option.bind_some, wrap_small _ (by omega) (by omega), ih, drop_rdT (l := l) (i := i) (by omega), getL]
    split <;> rfl
theorem refGet_eq (l : List S37) (hl : Small l) (nm : ByteArray) (hn : nm.size ≤ 100) (k : Nat) (hk : 100 ≤ k) : missiveref09_Get.f k l nm = some (getL l (dl nm)) := by
  have hlen := hl.1
  exact refGet_l0 l hl nm hn l.length 0 k (Nat.zero_add _) (by omega)
theorem getL_size (l : List S37) (hl : Small l) (nm : List UInt8) : (getL l nm).1.size ≤ 6000 := by
  replace hl := hl.2
  induction l with
  | nil => simp [getL, ByteArray.size]
  | cons x t ih =>
    rw [getL]
    split
    · exact (hl x (by simp)).2
    · exact ih (fun y hy => hl y (by simp [hy]))
end Go.Proofs.YtlldpjcnkckclaaDoor.PA
