/- MsgidReplies is true at every input: plain Lean. -/
import Derived.Test.YtlldpjcnkckclaaDoorPureD
import Derived.Test.YtlldpjcnkckclaaDoorPAx9
namespace Go.Proofs.YtlldpjcnkckclaaDoor.PA
open Go.RowKit Go.Proofs.YtlldpjcnkckclaaDoorW.PrintWords Go.Proofs.YtlldpjcnkckclaaDoorW.PrintLast Go.Proofs.YtlldpjcnkckclaaDoorW.PrintMore
open Hand (isIn isIn_iff others allOf)
set_option linter.unusedVariables false
set_option linter.unusedSimpArgs false
set_option maxRecDepth 100000

theorem lastOcc_mem : ∀ {L : List ByteArray} {x : ByteArray}, x ∈ lastOcc L → x ∈ L
  | [], x, h => by simp [lastOcc] at h
  | y :: t, x, h => by
    rw [lastOcc] at h
    split at h
    · exact List.mem_cons_of_mem _ (lastOcc_mem h)
    · rcases List.mem_cons.1 h with rfl | h
      · exact List.mem_cons_self
      · exact List.mem_cons_of_mem _ (lastOcc_mem h)
theorem lastOcc_nodup : ∀ L : List ByteArray, (lastOcc L).Nodup
  | [] => List.nodup_nil
  | y :: t => by
    rw [lastOcc]
    split
    · exact lastOcc_nodup t
    · rename_i h
      exact List.nodup_cons.2 ⟨fun hm => h ((isIn_iff t y).2 (lastOcc_mem hm)), lastOcc_nodup t⟩
theorem lastOcc_one (id : ByteArray) : ∀ l : List ByteArray, l.Nodup → lastOcc (l ++ [id]) = l.filter (fun y => !decide (y = id)) ++ [id]
  | [], _ => rfl
  | x :: t, h => by
    obtain ⟨hx, ht⟩ := List.nodup_cons.1 h
    rw [List.cons_append, lastOcc, lastOcc_one id t ht, List.filter_cons]
    by_cases e : x = id
    · rw [if_pos ((isIn_iff _ _).2 (by simp [e])), if_neg (by simp [e])]
    · rw [if_neg (fun g => by
        have := (isIn_iff _ _).1 g
        simp only [List.mem_append, List.mem_singleton] at this
        exact this.elim hx e), if_pos (by simp [e])]
      rfl
theorem refsL_mem {l : List S37} {x : ByteArray} (h : x ∈ refsL l) : vL (dl x) = true := by
  unfold refsL cutR at h
  rcases allOf_mem (lastOcc_mem (List.mem_of_mem_drop h)) with h | h
  · exact idsL_valid _ x h
  · exact idsL_valid _ x h
theorem refsL_nodup (l : List S37) : (refsL l).Nodup := by
  unfold refsL cutR
  exact List.Nodup.sublist (List.drop_sublist _ _) (lastOcc_nodup _)
theorem refsL_100 (l : List S37) : (refsL l).length ≤ 100 := by
  unfold refsL cutR
  rw [List.length_drop]
  omega

theorem Get_gen (l : List S37) (hl : l.length ≤ 20) (h0 : ∀ x ∈ l, x.f0.size ≤ 6000) (nm : ByteArray) : ∀ m i k, i + m = l.length → m + 6010 ≤ k → header_Get.l0 k nm l (l.length : Int) (i : Int) = some (getL (l.drop i) (dl nm))
  | _, _, 0, _, hk => by omega
  | 0, i, k + 1, h, hk => by
    rw [header_Get.l0, if_neg (by omega), List.drop_eq_nil_of_le (by omega)]
    rfl
  | m + 1, i, k + 1, h, hk => by
    have ih := Get_gen l hl h0 nm m (i + 1) k (by omega) (by omega)
    push_cast at ih
    have hx := h0 (rd_T37 l (i : Int)) (List.mem_of_getElem? (rdT_of (by omega)))
    rw [header_Get.l0, if_pos (by omega), if_pos (by omega), if_pos (by omega), text_Same_eq _ _ (by omega) k (by omega), Option.bind_some, wrap_small _ (by omega) (by omega), ih, drop_rdT (l := l) (i := i) (by omega), getL]
    split <;> rfl

section
variable (l : List ByteArray) (hv : ∀ x ∈ l, vL (dl x) = true)
def Pre2 (i : Nat) (s : ByteArray) : Prop := s.size ≤ 253 * i ∧ ∀ rest, scan (dl s ++ rest) none = l.take i ++ scan rest none
include hv
theorem pre2_next {i : Nat} {s : ByteArray} (hi : i < l.length) (hp : Pre2 l i s) : Pre2 l (i + 1) (((s ++ (⟨#[60]⟩ : ByteArray)) ++ rdOf ByteArray.empty l (i : Int)) ++ (⟨#[62, 32]⟩ : ByteArray)) := by
  have hx := hv _ (rd_mem hi)
  obtain ⟨hxn, hxs⟩ := vL_good hx
  rw [dl_length] at hxs
  refine ⟨?_, fun rest => ?_⟩
  · have := hp.1
    simp only [ByteArray.size_append]
    show s.size + 1 + (rdOf ByteArray.empty l (i : Int)).size + 2 ≤ _
    omega
  · simp only [dl_append]
    show scan ((((dl s ++ [60]) ++ dl (rdOf ByteArray.empty l (i : Int))) ++ [62, 32]) ++ rest) none = _
    rw [show (((dl s ++ [60]) ++ dl (rdOf ByteArray.empty l (i : Int))) ++ [62, 32]) ++ rest = dl s ++ (60 :: (dl (rdOf ByteArray.empty l (i : Int)) ++ (62 :: 32 :: rest))) by simp]
    rw [hp.2, scan, if_pos (by decide), scan_some _ _ _ hxn, scan, if_neg (by decide), if_pos (by decide), scan, if_neg (by decide), if_neg (by decide), List.nil_append]
    have e : flush (some (dl (rdOf ByteArray.empty l (i : Int)))) = [rdOf ByteArray.empty l (i : Int)] := by
      simp only [flush, hx, if_true]
    rw [e, List.take_add_one, rd_of hi]
    simp
end
/-- What the header that answers holds. -/
def nextH (s id : ByteArray) : List S37 :=
  [(⟨nmI, ((⟨#[60]⟩ : ByteArray) ++ id) ++ (⟨#[62]⟩ : ByteArray)⟩ : S37), (⟨nmR, ((s ++ (⟨#[60]⟩ : ByteArray)) ++ id) ++ (⟨#[62]⟩ : ByteArray)⟩ : S37)]
theorem next_refs (l : List ByteArray) (hn : l.Nodup) (hl : l.length ≤ 100) (hlv : ∀ x ∈ l, vL (dl x) = true) (id s : ByteArray) (hid : vL (dl id) = true) (hp : Pre2 l l.length s) (k : Nat) (hk : 60000 ≤ k) :
    msgid_Refs.f k (nextH s id) = some (cutR (l.filter (fun y => !decide (y = id)) ++ [id])) := by
  obtain ⟨hxn, hxs⟩ := vL_good hid
  rw [dl_length] at hxs
  have hsz := hp.1
  have hg := Get_gen (nextH s id) (by simp [nextH]) (by
    intro x hx
    simp only [nextH, List.mem_cons, List.not_mem_nil, or_false] at hx
    rcases hx with rfl | rfl
    · show nmI.size ≤ 6000
      decide
    · show nmR.size ≤ 6000
      decide)
  have hgR := hg nmR 2 0 k rfl (by omega)
  have hgI := hg nmI 2 0 k rfl (by omega)
  rw [List.drop_zero] at hgR hgI
  have e1 : getL (nextH s id) (dl nmR) = (((s ++ (⟨#[60]⟩ : ByteArray)) ++ id) ++ (⟨#[62]⟩ : ByteArray), true) := by
    unfold nextH
    rw [getL, if_neg (show ¬ sameL (dl nmI) (dl nmR) = true by decide), getL, if_pos (show sameL (dl nmR) (dl nmR) = true by decide)]
  have e2 : getL (nextH s id) (dl nmI) = (((⟨#[60]⟩ : ByteArray) ++ id) ++ (⟨#[62]⟩ : ByteArray), true) := by
    unfold nextH
    rw [getL, if_pos (show sameL (dl nmI) (dl nmI) = true by decide)]
  have ef : flush (some (dl id)) = [id] := by simp only [flush, hid, if_true]
  have i1 : idsL (dl (((s ++ (⟨#[60]⟩ : ByteArray)) ++ id) ++ (⟨#[62]⟩ : ByteArray))) = l ++ [id] := by
    simp only [dl_append, idsL]
    show scan (((dl s ++ [60]) ++ dl id) ++ [62]) none = _
    rw [show ((dl s ++ [60]) ++ dl id) ++ [62] = dl s ++ (60 :: (dl id ++ [62])) by simp]
    rw [hp.2, scan, if_pos (by decide), scan_some _ _ _ hxn, scan, if_neg (by decide), if_pos (by decide), List.nil_append, ef, List.take_of_length_le (Nat.le_refl _)]
    rfl
  have i2 : idsL (dl (((⟨#[60]⟩ : ByteArray) ++ id) ++ (⟨#[62]⟩ : ByteArray))) = [id] := by
    simp only [dl_append, idsL]
    show scan (([60] ++ dl id) ++ [62]) none = _
    rw [show ([60] ++ dl id) ++ [62] = (60 :: (dl id ++ [62]) : List UInt8) by simp]
    rw [scan, if_pos (by decide), scan_some _ _ _ hxn, scan, if_neg (by decide), if_pos (by decide), List.nil_append, ef]
    rfl
  have s1 : (((s ++ (⟨#[60]⟩ : ByteArray)) ++ id) ++ (⟨#[62]⟩ : ByteArray)).size ≤ 30000 := by
    simp only [ByteArray.size_append]
    show s.size + 1 + id.size + 1 ≤ _
    omega
  have s2 : (((⟨#[60]⟩ : ByteArray) ++ id) ++ (⟨#[62]⟩ : ByteArray)).size ≤ 30000 := by
    simp only [ByteArray.size_append]
    show 1 + id.size + 1 ≤ _
    omega
  have hr : msgid_idsOf.f k (nextH s id) nmR = some (l ++ [id]) := by
    unfold msgid_idsOf.f header_Get.f
    rw [show ((0 : Nat) : Int) = 0 from rfl] at hgR
    rw [hgR, Option.bind_some, e1]
    dsimp only
    rw [Ids_eq _ (by omega) k (by omega), Option.bind_some, i1]
  have hi : msgid_idsOf.f k (nextH s id) nmI = some [id] := by
    unfold msgid_idsOf.f header_Get.f
    rw [show ((0 : Nat) : Int) = 0 from rfl] at hgI
    rw [hgI, Option.bind_some, e2]
    dsimp only
    rw [Ids_eq _ (by omega) k (by omega), Option.bind_some, i2]
  have hall : allOf (l ++ [id]) [id] = l ++ [id] := by
    unfold allOf
    rw [List.getLast?_append]
    simp [others, isIn]
  have hsm : ∀ x ∈ l ++ [id], x.size ≤ 250 := by
    intro x hx
    rcases List.mem_append.1 hx with h | h
    · exact (vL_good (hlv x h)).2
    · rw [List.mem_singleton.1 h]
      exact hxs
  unfold msgid_Refs.f
  rw [show msgid_Refs.s1 = nmR from rfl, show msgid_Refs.s2 = nmI from rfl, hr, hi, Option.bind_some, Option.bind_some]
  unfold Hand.refsF
  rw [if_pos ⟨smallStrs_of (by simp; omega) hsm, smallStrs_of (by simp) (fun x hx => hsm x (by simp at hx; simp [hx]))⟩, hall]
  unfold Hand.lastOnesF
  rw [if_pos ⟨by simp; omega, by
    rw [List.all_eq_true]
    intro x hx
    have := hsm x hx
    simp; omega⟩, lastOnes_eq, lastOcc_one id l hn]

theorem replies_l0 (l : List ByteArray) (hn : l.Nodup) (hl : l.length ≤ 100) (hlv : ∀ x ∈ l, vL (dl x) = true) (id : ByteArray) (hid : vL (dl id) = true) :
    ∀ m i k s, i + m = l.length → m + 70000 ≤ k → Pre2 l i s → missivelaw12_MsgidReplies.l0 k id true l s ((l.take i).filter (fun y => !decide (y = id))) (i : Int) = some true
  | _, _, 0, _, _, hk, _ => by omega
  | 0, i, k + 1, s, h, hk, hp => by
    obtain rfl : i = l.length := by omega
    obtain ⟨hxn, hxs⟩ := vL_good hid
    rw [dl_length] at hxs
    have hsz := hp.1
    have hf := List.length_filter_le (fun y => !decide (y = id)) l
    rw [missivelaw12_MsgidReplies.l0, if_neg (by omega), List.take_of_length_le (Nat.le_refl _)]
    have hnx := next_refs l hn hl hlv id s hid hp k (by omega)
    generalize hw : l.filter (fun y => !decide (y = id)) = wnt at hf hnx ⊢
    have hsame : ∀ r : List ByteArray, r.length ≤ 200 → missiveref09_SameTexts.f k r r = some true := fun r hr => SameTexts_refl r (by omega) k (by omega)
    by_cases h1 : (wnt.length : Int) > 99
    · have e : wrap64 (wrap64 ((wnt.length : Int) - 100) + 1) = ((wnt.length - 99 : Nat) : Int) := by
        rw [wrap_small ((wnt.length : Int) - 100) (by omega) (by omega), wrap_small _ (by omega) (by omega)]
        omega
      rw [if_pos h1, e, if_pos (by omega), if_pos (by omega), Option.bind_some, Int.toNat_natCast, if_pos (by rw [List.length_drop]; omega), if_pos (by omega), if_pos (by omega), if_pos (by omega), if_pos (by omega), if_pos (by omega), if_pos rfl]
      rw [show ([(⟨(⟨#[73, 110, 45, 82, 101, 112, 108, 121, 45, 84, 111]⟩ : ByteArray), ((⟨#[60]⟩ : ByteArray) ++ id) ++ (⟨#[62]⟩ : ByteArray)⟩ : S37), (⟨(⟨#[82, 101, 102, 101, 114, 101, 110, 99, 101, 115]⟩ : ByteArray), ((s ++ (⟨#[60]⟩ : ByteArray)) ++ id) ++ (⟨#[62]⟩ : ByteArray)⟩ : S37)] : List S37) = nextH s id from rfl, hnx, Option.bind_some]
      have e2 : cutR (wnt ++ [id]) = wnt.drop (wnt.length - 99) ++ [id] := by
        unfold cutR
        rw [List.length_append, List.length_singleton, List.drop_append_of_le_length (by omega)]
        congr 2
      rw [e2, hsame _ (by simp; omega)]
      rfl
    · rw [if_neg h1, if_pos (by omega), if_pos (by omega), if_pos (by omega), if_pos (by omega), if_pos (by omega), if_pos (by omega), if_pos rfl]
      rw [show ([(⟨(⟨#[73, 110, 45, 82, 101, 112, 108, 121, 45, 84, 111]⟩ : ByteArray), ((⟨#[60]⟩ : ByteArray) ++ id) ++ (⟨#[62]⟩ : ByteArray)⟩ : S37), (⟨(⟨#[82, 101, 102, 101, 114, 101, 110, 99, 101, 115]⟩ : ByteArray), ((s ++ (⟨#[60]⟩ : ByteArray)) ++ id) ++ (⟨#[62]⟩ : ByteArray)⟩ : S37)] : List S37) = nextH s id from rfl, hnx, Option.bind_some]
      have e2 : cutR (wnt ++ [id]) = wnt ++ [id] := by
        unfold cutR
        rw [List.length_append, List.length_singleton, show wnt.length + 1 - 100 = 0 by omega, List.drop_zero]
      rw [e2, hsame _ (by simp; omega)]
      rfl
  | m + 1, i, k + 1, s, h, hk, hp => by
    have hx := (vL_good (hlv _ (rd_mem (l := l) (i := i) (by omega)))).2
    rw [dl_length] at hx
    have hsz := hp.1
    have hf := List.length_filter_le (fun y => !decide (y = id)) (l.take i)
    have ih := replies_l0 l hn hl hlv id hid m (i + 1) k _ (by omega) (by omega) (pre2_next l hlv (by omega) hp)
    push_cast at ih
    rw [List.take_add_one, rd_of (l := l) (i := i) (by omega), List.filter_append] at ih
    rw [missivelaw12_MsgidReplies.l0, if_pos (by omega), if_pos (by omega), if_pos (by omega), if_pos (by omega), if_pos (by omega), wrap_small _ (by omega) (by omega)]
    by_cases e : (rdOf ByteArray.empty l (i : Int)).toList = id.toList
    · rw [if_pos e]
      have e' := toList_inj e
      simpa [e'] using ih
    · rw [if_neg e, if_pos (by rw [List.length_take] at hf; omega)]
      have e' : ¬ rdOf ByteArray.empty l (i : Int) = id := fun g => e (by rw [g])
      simpa [e'] using ih

theorem MsgidReplies_true (l : List S37) (hl : l.length ≤ 9223372036854775807) (id : ByteArray) : ∃ k, missivelaw12_MsgidReplies.f k l id = some true := by
  refine ⟨l.length + 80000, ?_⟩
  obtain ⟨k, hk⟩ : ∃ k, l.length + 80000 = k + 1 := ⟨l.length + 79999, by omega⟩
  rw [hk]
  unfold missivelaw12_MsgidReplies.f
  obtain ⟨b, hb, hb2⟩ := few_eq l hl
  rw [small_true _ (by omega), Option.bind_some, hb _ (by omega), Option.bind_some]
  cases b with
  | false => rw [if_neg (by simp), missivelaw12_MsgidReplies.j0, if_pos rfl]
  | true =>
    have hS := hb2 rfl
    rw [if_pos rfl, Valid_eq id _ (by omega), Option.bind_some, missivelaw12_MsgidReplies.j0]
    cases hv : vL (dl id) with
    | false => rw [if_pos (show (!false) = true from rfl)]
    | true =>
      rw [if_neg (by simp), Refs_eq l hS k (by omega), Option.bind_some]
      have h1 := refsL_100 l
      have h := replies_l0 (refsL l) (refsL_nodup l) h1 (fun x hx => refsL_mem hx) id hv (refsL l).length 0 k (⟨#[]⟩ : ByteArray) (Nat.zero_add _) (by omega) ⟨by simp [ByteArray.size], fun rest => by simp [dl]⟩
      simpa using h
end Go.Proofs.YtlldpjcnkckclaaDoor.PA
