/- CodecParts: the texts of two parts, one after the other. -/
import Derived.Test.YtfephmhphkmegaaPAx5
import Derived.Test.YtfephmhphkmegaaPureCodecBack
namespace Go.Proofs.Ytfephmhphkmegaa.Pure
open Go.RowKit Go.Proofs.Ytfephmhphkmegaa.PA Go.Proofs.YtfephmhphkmegaaW.PrintWords Go.Proofs.YtfephmhphkmegaaW.PrintLast
open Go.Proofs.Ytfephmhphkmegaa.Hd (dl dl_length toList_dl dl_drop dl_at ba_ext bt_u wr64s ub)
set_option linter.unusedVariables false
set_option linter.unusedSimpArgs false
def nl (c : UInt8) : Bool := decide (c ≠ 10)
theorem pt_eq (c : UInt8) (n : Nat) (hn : n < 256) : ((c.toNat : Int) = (n : Int)) ↔ c = UInt8.ofNat n := by
  constructor
  · intro h
    apply UInt8.toNat_inj.1
    rw [UInt8.toNat_ofNat']
    omega
  · rintro rfl
    rw [UInt8.toNat_ofNat']
    omega
def flat (l : List ByteArray) : List UInt8 := (l.map dl).flatten
theorem flat_append (a b : List ByteArray) : flat (a ++ b) = flat a ++ flat b := by simp [flat]
theorem dl_ext (s : ByteArray) (a b : Nat) : dl (s.extract a b) = ((dl s).drop a).take (b - a) := by
  show (s.extract a b).data.toList = _
  rw [Lib.extract_data]
theorem take_next (s : ByteArray) (f i : Nat) (hf : f ≤ i) (hi : i < s.size) : ((dl s).drop f).take (i + 1 - f) = ((dl s).drop f).take (i - f) ++ [s[i]'hi] := by
  rw [show i + 1 - f = (i - f) + 1 by omega, List.take_add_one, List.getElem?_drop, show f + (i - f) = i by omega, dl_at s i hi]
  rfl
theorem lines_go (s : ByteArray) (hs : s.size ≤ 1000000) (h13 : ∀ c ∈ dl s, c ≠ 13) : ∀ m k i f (acc : List ByteArray), i + m = s.size → m < k → f ≤ i → acc.length ≤ i → (∀ c ∈ ((dl s).drop f).take (i - f), c ≠ 10) →
    ∃ r, missiveref01_Lines.l0 k s acc (f : Int) (i : Int) = some r ∧ flat r = flat acc ++ ((dl s).drop f).take (i - f) ++ ((dl s).drop i).filter nl ∧ r.length ≤ acc.length + m + 1
  | _, 0, _, _, _, _, h, _, _, _ => by omega
  | 0, k + 1, i, f, acc, h, hk, hfi, hal, hn => by
    obtain rfl : i = s.size := by omega
    have hd : (dl s).drop s.size = [] := List.drop_eq_nil_of_le (by rw [dl_length]; omega)
    have ht : ((dl s).drop f).take (s.size - f) = (dl s).drop f := List.take_of_length_le (by rw [List.length_drop, dl_length]; omega)
    rw [missiveref01_Lines.l0, if_neg (by omega)]
    by_cases hlt : f < s.size
    · rw [if_pos (by omega), if_pos (by omega), if_pos (by omega), if_pos (by omega)]
      refine ⟨_, rfl, ?_, by simp⟩
      rw [flat_append, hd, List.filter_nil, List.append_nil]
      congr 1
      show (dl (s.extract ((f : Int).toNat) s.size)) ++ [] = _
      rw [List.append_nil, Int.toNat_natCast, dl_ext]
    · rw [if_neg (by omega)]
      have hdf : (dl s).drop f = [] := List.drop_eq_nil_of_le (by rw [dl_length]; omega)
      refine ⟨_, rfl, ?_, by omega⟩
      rw [ht, hdf, hd]
      simp
  | m + 1, k + 1, i, f, acc, h, hk, hfi, hal, hn => by
    have hlt : i < s.size := by omega
    have hb := bt_u s i hlt
    have hD := dl_drop s i hlt
    have e10 : (((s[i]'hlt).toNat : Int) = 10 ↔ s[i]'hlt = 10) := pt_eq _ 10 (by omega)
    have hw := wr64s i (by omega)
    rw [missiveref01_Lines.l0, if_pos (by omega), if_pos (by omega), hb]
    by_cases h10 : s[i]'hlt = 10
    · obtain ⟨r, hr, hfl, hle⟩ := lines_go s hs h13 m k (i + 1) (i + 1) (acc ++ [s.extract f i]) (by omega) (by omega) (by omega) (by simp; omega) (by simp)
      have hres : flat r = flat acc ++ ((dl s).drop f).take (i - f) ++ ((dl s).drop i).filter nl := by
        rw [hfl, Nat.sub_self, List.take_zero, List.append_nil, hD, h10, List.filter_cons, show nl 10 = false from rfl, if_neg (by simp), flat_append]
        congr 2
        show dl (s.extract f i) ++ [] = _
        rw [List.append_nil, dl_ext]
      have hcall : (if 0 ≤ (f : Int) then (if (f : Int) ≤ (i : Int) then (if (i : Int) ≤ (s.size : Int) then (if acc.length < 8796093022208 then (missiveref01_Lines.l0 k s (acc ++ [s.extract ((f : Int)).toNat ((i : Int)).toNat]) (wrap64 ((i : Int) + 1)) (wrap64 ((i : Int) + 1))) else (none)) else (none)) else (none)) else (none)) = some r := by
        rw [if_pos (by omega), if_pos (by omega), if_pos (by omega), if_pos (by omega), hw, Int.toNat_natCast, Int.toNat_natCast]
        exact hr
      refine ⟨r, ?_, hres, by simp at hle; omega⟩
      rw [if_pos (e10.2 h10)]
      by_cases hgt : f < i
      · have hwm : wrap64 ((i : Int) - 1) = ((i - 1 : Nat) : Int) := by unfold wrap64; omega
        have hl2 : i - 1 < s.size := by omega
        have e13 : (((s[i - 1]'hl2).toNat : Int) = 13 ↔ s[i - 1]'hl2 = 13) := pt_eq _ 13 (by omega)
        have hno : s[i - 1]'hl2 ≠ 13 := h13 _ (List.mem_of_getElem? (dl_at s (i - 1) hl2))
        rw [if_pos (by omega), hwm, if_pos (by omega), if_pos (by omega), bt_u s (i - 1) hl2, if_neg (fun e => hno (e13.1 e))]
        exact hcall
      · rw [if_neg (by omega)]
        exact hcall
    · have htk := take_next s f i hfi hlt
      obtain ⟨r, hr, hfl, hle⟩ := lines_go s hs h13 m k (i + 1) f acc (by omega) (by omega) (by omega) (by omega) (by
        intro c hc
        rw [htk, List.mem_append] at hc
        rcases hc with hc | hc
        · exact hn c hc
        · rw [List.mem_singleton.1 hc]
          exact h10)
      refine ⟨r, ?_, ?_, by omega⟩
      · rw [if_neg (fun e => h10 (e10.1 e)), hw]
        exact hr
      · rw [hfl, htk, hD, List.filter_cons, show nl (s[i]'hlt) = true from decide_eq_true h10, if_pos rfl]
        simp
theorem join_go (l : List ByteArray) (hF : (flat l).length ≤ 100000000) : ∀ m k i (acc : List UInt8), i + m = l.length → m < k → acc ++ flat (l.drop i) = flat l → l.length ≤ 100000000 →
    missiveref01_Join.l0 k l (⟨#[]⟩ : ByteArray) (acc.map fun c => (c.toNat : Int)) (i : Int) = some (mk (flat l))
  | _, 0, _, _, _, h, _, _ => by omega
  | 0, k + 1, i, acc, h, hk, he, hl => by
    rw [missiveref01_Join.l0, if_neg (by omega)]
    rw [List.drop_of_length_le (by omega)] at he
    have he2 : acc = flat l := by rw [← he]; simp [flat]
    rw [he2]
    congr 1
    apply ba_ext
    rw [dl_mk]
    simp [dl, strOfNums, Function.comp_def]
  | m + 1, k + 1, i, acc, h, hk, he, hl => by
    have hlt : i < l.length := by omega
    have hD : l.drop i = l[i] :: l.drop (i + 1) := List.drop_eq_getElem_cons hlt
    have hrd : rdOf ByteArray.empty l (i : Int) = l[i] := by simp [rdOf, List.getD, hlt]
    have hby : bytesOf l[i] = (dl l[i]).map fun c => (c.toNat : Int) := rfl
    rw [hD] at he
    have he2 : (acc ++ dl l[i]) ++ flat (l.drop (i + 1)) = flat l := by
      rw [List.append_assoc]
      exact he
    have hlen := congrArg List.length he2
    rw [List.length_append, List.length_append, dl_length] at hlen
    have ih := join_go l hF m k (i + 1) (acc ++ dl l[i]) (by omega) (by omega) he2 hl
    rw [List.map_append, ← hby] at ih
    have hw := wr64s i (by omega)
    rw [missiveref01_Join.l0, if_pos (by omega)]
    by_cases h0 : (i : Int) > 0
    · rw [if_pos h0, if_pos (by simp [ByteArray.size]; omega), Option.bind_some, if_pos (by omega), hrd, if_pos (by simp [bytesOf]; omega), hw]
      have e0 : bytesOf (⟨#[]⟩ : ByteArray) = [] := rfl
      rw [e0, List.append_nil]
      exact ih
    · rw [if_neg h0, if_pos (by omega), hrd, if_pos (by simp; omega), hw]
      exact ih
theorem flat64 (k : Nat) (hk : 2000000 ≤ k) (s : ByteArray) (hs : s.size ≤ 10000) :
    ∃ r, missiveref01_Lines.f k (mk (Pl.b64 (dl s) 0)) = some r ∧ missiveref01_Join.f k r (⟨#[]⟩ : ByteArray) = some (mk ((Pl.b64 (dl s) 0).filter nl)) := by
  have hl := Pl.b64_len (dl s) 0
  rw [dl_length] at hl
  obtain ⟨r, hr, hf, hle⟩ := lines_go (mk (Pl.b64 (dl s) 0)) (by rw [size_mk]; omega) (by rw [dl_mk]; exact Pl.b64_no13 _ _) (mk (Pl.b64 (dl s) 0)).size k 0 0 [] (by omega) (by rw [size_mk]; omega) (by omega) (by simp) (by simp)
  rw [dl_mk] at hf
  simp [flat] at hf
  rw [size_mk] at hle
  simp at hle
  have hf2 : flat r = (Pl.b64 (dl s) 0).filter nl := hf
  have hfl := List.length_filter_le nl (Pl.b64 (dl s) 0)
  refine ⟨r, hr, ?_⟩
  have := join_go r (by rw [hf2]; omega) r.length k 0 [] (by omega) (by omega) (by simp) (by omega)
  rw [hf2] at this
  exact this
theorem dl_app (a b : ByteArray) : dl (a ++ b) = dl a ++ dl b := by
  simp [dl]
theorem CodecParts : missivelaw07_CodecParts.Pure := by
  intro a0 a1 h0 h1
  refine ⟨3000000, ?_⟩
  obtain ⟨k, hk⟩ : ∃ k : Nat, 3000000 = k + 2 := ⟨2999998, rfl⟩
  rw [hk]
  unfold missivelaw07_CodecParts.f
  rw [small_true, Option.bind_some]
  by_cases hs : (a0.size : Int) > 500
  · rw [if_pos hs, missivelaw07_CodecParts.j0, if_pos rfl]
  rw [if_neg hs]
  by_cases ht : (a1.size : Int) > 500
  · rw [decide_eq_true ht, missivelaw07_CodecParts.j0, if_pos rfl]
  rw [decide_eq_false ht]
  have hl0 := dl_length a0
  have hl1 := dl_length a1
  have hz : (a0 ++ a1).size = a0.size + a1.size := by rw [← dl_length, dl_app, List.length_append, hl0, hl1]
  have hp0 := Pl.per_len (dl a0)
  have hp1 := Pl.per_len (dl a1)
  have hq0 := Pl.quo_len (dl a0) 0
  have hq1 := Pl.quo_len (dl a1) 0
  have hj1 : missivelaw07_CodecParts.j1 (k + 1) a0 a1 true false = some true := by
    rw [missivelaw07_CodecParts.j1, if_neg (by simp)]
    by_cases h3 : (a0.size : Int) % 3 = 0
    · obtain ⟨r0, e0, f0⟩ := flat64 k (by omega) a0 (by omega)
      obtain ⟨r1, e1, f1⟩ := flat64 k (by omega) a1 (by omega)
      obtain ⟨r2, e2, f2⟩ := flat64 k (by omega) (a0 ++ a1) (by omega)
      have hb0 := Pl.b64_len (dl a0) 0
      have hb1 := Pl.b64_len (dl a1) 0
      have g0 := List.length_filter_le nl (Pl.b64 (dl a0) 0)
      have g1 := List.length_filter_le nl (Pl.b64 (dl a1) 0)
      rw [if_pos h3, base64_eq _ (by omega), Option.bind_some, e0, Option.bind_some, f0, Option.bind_some, base64_eq _ (by omega), Option.bind_some, e1, Option.bind_some, f1, Option.bind_some, if_pos (by rw [size_mk, size_mk]; omega), if_pos rfl,
        if_pos (by omega), base64_eq _ (by omega), Option.bind_some, e2, Option.bind_some, f2, Option.bind_some, toList_dl, toList_dl]
      simp only [dl_app, dl_mk]
      have := Pl.flat64 (dl a0) (dl a1) (by omega)
      rw [show (Pl.b64 (dl a0 ++ dl a1) 0).filter nl = (Pl.b64 (dl a0) 0).filter nl ++ (Pl.b64 (dl a1) 0).filter nl from this]
      simp
    · rw [if_neg h3]
  rw [missivelaw07_CodecParts.j0, if_neg (by simp), if_pos (by omega), percent_eq _ (by omega), Option.bind_some, percent_eq _ (by omega), Option.bind_some, percent_eq _ (by omega), Option.bind_some, if_pos (by rw [size_mk, size_mk]; omega),
    if_pos (by rw [toList_dl, toList_dl]; simp only [dl_app, dl_mk, Pl.per_append]), if_pos (by omega), if_pos (by omega)]
  have hq : dl ((a0 ++ (⟨#[10]⟩ : ByteArray)) ++ a1) = dl a0 ++ 10 :: dl a1 := by
    rw [dl_app, dl_app]
    simp [dl]
  have hqz : ((a0 ++ (⟨#[10]⟩ : ByteArray)) ++ a1).size ≤ 100000000 := by
    rw [← dl_length, hq, List.length_append, List.length_cons, hl0, hl1]
    omega
  rw [quoted_eq _ hqz, Option.bind_some, quoted_eq _ (by omega), Option.bind_some, if_pos (by rw [size_mk]; omega), quoted_eq _ (by omega), Option.bind_some, if_pos (by rw [size_mk, size_mk]; omega)]
  have he : ((mk (Pl.quo (dl ((a0 ++ (⟨#[10]⟩ : ByteArray)) ++ a1)) 0)).toList != ((mk (Pl.quo (dl a0) 0) ++ (⟨#[10]⟩ : ByteArray)) ++ mk (Pl.quo (dl a1) 0)).toList) = false := by
    rw [toList_dl, toList_dl, dl_mk, hq, dl_app, dl_app, dl_mk, dl_mk, Pl.quo_parts]
    rw [bne_eq_false_iff_eq]
    simp [dl]
  rw [he]
  exact hj1
end Go.Proofs.Ytfephmhphkmegaa.Pure
