/- codec.pair, codec.lineEnd and the small tests, in words of lists. -/
import Derived.Test.YtfephmhphkmegaaHandC
import Derived.Test.YtfephmhphkmegaaShelf
namespace Go.Proofs.Ytfephmhphkmegaa.Hd
open Go.RowKit Go.Maps Go.Proofs.YtfephmhphkmegaaW.PrintWords Go.Proofs.YtfephmhphkmegaaW.PrintLast Go.Proofs.YtfephmhphkmegaaW.PrintMore
set_option linter.unusedVariables false
set_option linter.unusedSimpArgs false

abbrev dl (s : ByteArray) : List UInt8 := s.data.toList
theorem ub (c : UInt8) (P : UInt8 → Bool) (h : (∀ n : Fin 256, P (UInt8.ofNat n.val) = true)) : P c = true := by
  have := h ⟨c.toNat, c.toNat_lt⟩
  simpa using this
theorem white_eq (c : UInt8) : codec_white.f (c.toNat : Int) = some (Pl.wh c) := by
  have := ub c (fun c => decide (codec_white.f (c.toNat : Int) = some (Pl.wh c))) (by decide +kernel)
  exact of_decide_eq_true this
theorem blank_eq (c : UInt8) : codec_blank.f (c.toNat : Int) = some (Pl.bl c) := by
  have := ub c (fun c => decide (codec_blank.f (c.toNat : Int) = some (Pl.bl c))) (by decide +kernel)
  exact of_decide_eq_true this
theorem plain_eq (c : UInt8) (b : Bool) : codec_plain.f (c.toNat : Int) b = some (Pl.plainQ c b) := by
  have := ub c (fun c => decide (∀ b, codec_plain.f (c.toNat : Int) b = some (Pl.plainQ c b))) (by decide +kernel)
  exact of_decide_eq_true this b
theorem coded_eq (c : UInt8) : codec_coded.f 61 (c.toNat : Int) = some ⟨(Pl.coded 61 c).toArray⟩ ∧ codec_coded.f 37 (c.toNat : Int) = some ⟨(Pl.coded 37 c).toArray⟩ := by
  have := ub c (fun c => decide (codec_coded.f 61 (c.toNat : Int) = some ⟨(Pl.coded 61 c).toArray⟩ ∧ codec_coded.f 37 (c.toNat : Int) = some ⟨(Pl.coded 37 c).toArray⟩)) (by decide +kernel)
  exact of_decide_eq_true this

theorem white_c (c : UInt8) (w : World) : Calls Try.prog 25 #[.int .u8 (c.toNat : Int)] w fun e w' => e = .returned (.bool (Pl.wh c)) ∧ Drawn0 w w' := codec_white.calls _ _ w (white_eq c)
theorem blank_c (c : UInt8) (w : World) : Calls Try.prog 32 #[.int .u8 (c.toNat : Int)] w fun e w' => e = .returned (.bool (Pl.bl c)) ∧ Drawn0 w w' := codec_blank.calls _ _ w (blank_eq c)
theorem plain_c (c : UInt8) (b : Bool) (w : World) : Calls Try.prog 35 #[.int .u8 (c.toNat : Int), .bool b] w fun e w' => e = .returned (.bool (Pl.plainQ c b)) ∧ Drawn0 w w' := codec_plain.calls _ _ _ w (plain_eq c b)
theorem coded61_c (c : UInt8) (w : World) : Calls Try.prog 36 #[.int .u8 61, .int .u8 (c.toNat : Int)] w fun e w' => e = .returned (.string ⟨(Pl.coded 61 c).toArray⟩) ∧ Below w.heap.size w w' := codec_coded.calls _ _ _ w (coded_eq c).1
theorem coded37_c (c : UInt8) (w : World) : Calls Try.prog 36 #[.int .u8 37, .int .u8 (c.toNat : Int)] w fun e w' => e = .returned (.string ⟨(Pl.coded 37 c).toArray⟩) ∧ Below w.heap.size w w' := codec_coded.calls _ _ _ w (coded_eq c).2

theorem dl_length (s : ByteArray) : (dl s).length = s.size := by simp [dl]
theorem dl_at (s : ByteArray) (k : Nat) (h : k < s.size) : (dl s)[k]? = some s[k] := by
  have h' : k < (dl s).length := by rw [dl_length]; exact h
  rw [List.getElem?_eq_getElem h']
  rfl
theorem dl_drop (s : ByteArray) (k : Nat) (h : k < s.size) : (dl s).drop k = s[k] :: (dl s).drop (k + 1) := by
  have h' : k < (dl s).length := by rw [dl_length]; exact h
  rw [List.drop_eq_getElem_cons h']
  rfl
theorem dl_extract (s : ByteArray) (i j : Nat) : dl (s.extract i j) = ((dl s).take j).drop i := by
  show (s.extract i j).data.toList = _
  rw [Lib.extract_data, List.drop_take]
theorem dl_tail (s : ByteArray) (i : Nat) : dl (s.extract i s.size) = (dl s).drop i := by
  rw [dl_extract, List.take_of_length_le (by rw [dl_length]; omega)]
theorem bt_u (s : ByteArray) (k : Nat) (h : k < s.size) : bt s (k : Int) = (s[k].toNat : Int) := by simp [bt, h]
theorem wr64 (n : Nat) (h : n < 9223372036854775808) : wrap64 (n : Int) = (n : Int) := by unfold wrap64; omega
theorem wr64s (n : Nat) (h : n < 9223372036854775807) : wrap64 ((n : Int) + 1) = ((n + 1 : Nat) : Int) := by unfold wrap64; omega
def nb : List UInt8 → Nat
  | [] => 0
  | c :: t => if Pl.bl c = true then nb t + 1 else 0
theorem nb_le : ∀ l, nb l ≤ l.length
  | [] => Nat.le_refl _
  | c :: t => by
    have := nb_le t
    rw [nb]
    split <;> simp only [List.length_cons] <;> omega
theorem blanks_l0 (s : ByteArray) (hs : s.size ≤ 1000000000) : ∀ m k i, i + m = s.size → m < k → codec_blanks.l0 k s (i : Int) = some ((i + nb ((dl s).drop i) : Nat) : Int)
  | _, 0, _, _, h => by omega
  | 0, k + 1, i, h, _ => by
    rw [codec_blanks.l0, if_neg (by omega), List.drop_of_length_le (by rw [dl_length]; omega)]
    rfl
  | m + 1, k + 1, i, h, hk => by
    have hlt : i < s.size := by omega
    have ih := blanks_l0 s hs m k (i + 1) (by omega) (by omega)
    rw [codec_blanks.l0, if_pos (by omega), if_pos (by omega), bt_u s i hlt, blank_eq, Option.bind_some, wr64s i (by omega), ih, dl_drop s i hlt, nb]
    by_cases hb : Pl.bl s[i] = true
    · rw [if_pos hb, if_pos hb]
      congr 2
      omega
    · rw [if_neg hb, if_neg hb]
      rfl
theorem blanks_c (s : ByteArray) (hs : s.size ≤ 1000000000) (w : World) : Calls Try.prog 33 #[.string s] w fun e w' => e = .returned (.int .i64 (nb (dl s) : Int)) ∧ Drawn0 w w' := by
  refine codec_blanks.calls (s.size + 1) s _ w ?_
  have := blanks_l0 s hs s.size (s.size + 1) 0 (by omega) (by omega)
  simpa [codec_blanks.f] using this

/-! ### lineEnd -/
def leV (l : List UInt8) : Value := match Pl.lineEnd l with
  | some n => .tuple #[.int .i64 (n : Int), .bool true]
  | none => .tuple #[.int .i64 0, .bool false]
theorem lineEnd_nb : ∀ l : List UInt8, Pl.lineEnd l = match (Pl.lineEnd (l.drop (nb l))) with
    | some n => some (nb l + n)
    | none => none
  | [] => rfl
  | c :: t => by
    by_cases hb : Pl.bl c = true
    · rw [Pl.lineEnd, if_pos hb, nb, if_pos hb, List.drop_succ_cons, lineEnd_nb t]
      cases Pl.lineEnd (t.drop (nb t)) with
      | none => rfl
      | some n =>
        simp only [Option.map_some]
        congr 1
        omega
    · rw [nb, if_neg hb, List.drop_zero]
      cases Pl.lineEnd (c :: t) with
      | none => rfl
      | some n => simp
theorem nb_stop : ∀ (l : List UInt8) c t, l.drop (nb l) = c :: t → Pl.bl c = false
  | [], c, t, h => by simp [nb] at h
  | d :: l, c, t, h => by
    by_cases hb : Pl.bl d = true
    · rw [nb, if_pos hb, List.drop_succ_cons] at h
      exact nb_stop l c t h
    · rw [nb, if_neg hb, List.drop_zero] at h
      cases h
      simpa using hb
theorem toList_dl (s : ByteArray) : s.toList = dl s := ByteArray.toList_eq s
theorem lineEnd_c (s : ByteArray) (hs : s.size ≤ 1000000000) (w : World) : Calls Try.prog 31 #[.string s] w fun e w' => e = .returned (leV (dl s)) ∧ Drawn0 w w' := by
  have hn := nb_le (dl s)
  rw [dl_length] at hn
  have hL := lineEnd_nb (dl s)
  have hst := nb_stop (dl s)
  have hbk := blanks_c s hs
  obtain ⟨n, hne⟩ : ∃ n, n = nb (dl s) := ⟨_, rfl⟩
  rw [← hne] at hn hL hst hbk
  have hD := dl_tail s n
  have hz : (s.extract n s.size).size = s.size - n := by simp
  cases hd : (dl s).drop n with
  | nil =>
    rw [hd] at hL hD
    have hV := Lib.hid (show leV (dl s) = .tuple #[.int .i64 (n : Int), .bool true] by
      unfold leV
      rw [hL]
      rfl)
    have e1 : (s.extract n s.size).toList = [] := by rw [toList_dl, hD]
    have e2 : (s.extract n s.size).toList.isEmpty = true := by rw [e1]; rfl
    clear hL hst hd hD hz hne
    go_enter Try.func31, Try.ntmps31
    go_wp2_with (go_at_call 33; refine (hbk _).mono ?_; rintro e w1 ⟨rfl, nd, rfl⟩)
    go_ret2
    exact ⟨hV.out.symm ▸ rfl, ⟨_, rfl⟩⟩
  | cons c t =>
    rw [hd] at hL hD
    have hb := hst c t hd
    have hlt : n < s.size := by
      have := congrArg List.length hd
      rw [List.length_drop, dl_length, List.length_cons] at this
      omega
    have hp0 : 0 < (s.extract n s.size).size := by rw [hz]; omega
    have hp1 : (0 : Int) < ((s.extract n s.size).size : Int) := by omega
    have hx : ∀ h : 0 < (s.extract n s.size).size, ((s.extract n s.size)[0]'h).toNat = c.toNat := by
      intro h
      have := dl_at (s.extract n s.size) 0 h
      rw [hD] at this
      simp at this
      rw [this]
    have e1 : ¬ (s.extract n s.size).toList = [] := by rw [toList_dl, hD]; simp
    have e2 : (s.extract n s.size).toList.isEmpty = false := by rw [toList_dl, hD]; rfl
    have hpre := Try.strings_HasPrefix (s.extract n s.size) ⟨#[13, 10]⟩
    rw [show (s.extract n s.size).data.toList = c :: t from hD] at hpre
    rw [Pl.lineEnd, if_neg (by simp [hb])] at hL
    by_cases h10 : c = 10
    · rw [if_pos h10] at hL
      have hV := Lib.hid (show leV (dl s) = .tuple #[.int .i64 ((n + 1 : Nat) : Int), .bool true] by
        unfold leV
        rw [hL])
      have hc1 : ((c.toNat : Int) == 10) = true := by rw [h10]; rfl
      have hc2 : (c.toNat : Int) = 10 := by rw [h10]; rfl
      clear hL hst hd hD hz hne hb h10 hpre
      go_enter Try.func31, Try.ntmps31
      go_wp2_with (go_at_call 33; refine (hbk _).mono ?_; rintro e w1 ⟨rfl, nd, rfl⟩)
      go_ret2
      exact ⟨hV.out.symm ▸ rfl, ⟨_, rfl⟩⟩
    · rw [if_neg h10] at hL
      have h10' : c.toNat ≠ 10 := fun e => h10 (UInt8.toNat_inj.1 e)
      have hc1 : ((c.toNat : Int) == 10) = false := by simp; omega
      have hc2 : ¬ (c.toNat : Int) = 10 := by omega
      have hpq : Lib.hasPrefix (c :: t) [13, 10] = decide (c = 13 ∧ Pl.is10 t = true) := by
        unfold Lib.hasPrefix
        rw [Bool.eq_iff_iff]
        cases t with
        | nil => simp [List.isPrefixOf, Pl.is10]
        | cons d u =>
          simp only [List.isPrefixOf, Pl.is10, Bool.and_true, Bool.and_eq_true, beq_iff_eq, decide_eq_true_eq]
          constructor
          · rintro ⟨h1, h2⟩
            exact ⟨h1.symm, h2.symm⟩
          · rintro ⟨h1, h2⟩
            exact ⟨h1.symm, h2.symm⟩
      rw [show (⟨#[13, 10]⟩ : ByteArray).data.toList = [13, 10] from rfl, hpq] at hpre
      by_cases h13 : c = 13 ∧ Pl.is10 t = true
      · rw [if_pos h13] at hL
        rw [decide_eq_true h13] at hpre
        have hV := Lib.hid (show leV (dl s) = .tuple #[.int .i64 ((n + 2 : Nat) : Int), .bool true] by
          unfold leV
          rw [hL])
        clear hL hst hd hD hz hne hb h10 h10' h13 hpq
        go_enter Try.func31, Try.ntmps31
        go_wp2_with (first
          | (go_at_call 33; refine (hbk _).mono ?_; rintro e w1 ⟨rfl, nd, rfl⟩)
          | (go_at_call 34; refine (hpre _).mono ?_; rintro e w2 ⟨rfl, rfl⟩))
        go_ret2
        exact ⟨hV.out.symm ▸ rfl, ⟨_, rfl⟩⟩
      · rw [if_neg h13] at hL
        rw [decide_eq_false h13] at hpre
        have hV := Lib.hid (show leV (dl s) = .tuple #[.int .i64 0, .bool false] by
          unfold leV
          rw [hL])
        clear hL hst hd hD hz hne hb h10 h10' h13 hpq
        go_enter Try.func31, Try.ntmps31
        go_wp2_with (first
          | (go_at_call 33; refine (hbk _).mono ?_; rintro e w1 ⟨rfl, nd, rfl⟩)
          | (go_at_call 34; refine (hpre _).mono ?_; rintro e w2 ⟨rfl, rfl⟩))
        go_ret2
        exact ⟨hV.out.symm ▸ rfl, ⟨_, rfl⟩⟩

/-! ### pair -/
def pairV (l : List UInt8) : Value := match Pl.pair l with
  | some v => .tuple #[.int .u8 (v.toNat : Int), .bool true]
  | none => .tuple #[.int .u8 0, .bool false]
theorem pair_byte (x y : Nat) (hx : x < 16) (hy : y < 16) : IntKind.u8.wrap (bits .or .i64 ((x : Int) * 16) (y : Int)) = ((UInt8.ofNat (x * 16 + y)).toNat : Int) := by
  rw [bits_join .i64 62 (by decide) wraps_i64 4 _ _ (by omega) (by omega) (by omega) (by omega) (by omega) (by omega), IntKind.wrap_u8, UInt8.toNat_ofNat']
  omega
theorem pair_short (s : ByteArray) (hs : s.size < 2) (v : Value) (w : World) : Calls Try.prog 30 #[v, .string s] w fun e w' => e = .returned (pairV (dl s)) ∧ Drawn0 w w' := by
  have hV := Lib.hid (show pairV (dl s) = .tuple #[.int .u8 0, .bool false] by
    have hl := dl_length s
    unfold pairV
    match h : dl s with
    | [] => rfl
    | [a] => rfl
    | a :: b :: t => rw [h] at hl; simp only [List.length_cons] at hl; omega)
  have h1 : (s.size : Int) < 2 := by omega
  go_enter Try.func30, Try.ntmps30
  go_wp2
  go_ret2
  exact ⟨hV.out.symm ▸ rfl, ⟨0, rfl⟩⟩
theorem pair_c (s : ByteArray) (hs : s.size ≤ 1000000000) (b n : Nat) (w : World) (hT : IsTab w b n Pl.hexv) : Calls Try.prog 30 #[.map (some b), .string s] w fun e w' => e = .returned (pairV (dl s)) ∧ Drawn0 w w' := by
  by_cases h2 : s.size < 2
  · exact pair_short s h2 _ w
  have p0 : 0 < s.size := by omega
  have p1 : 1 < s.size := by omega
  obtain ⟨D, hown, hM, hf⟩ := hT
  have Hown := Lib.hid hown
  have k0 := key_u8 (s[0]'p0)
  have k1 := key_u8 (s[1]'p1)
  obtain ⟨hh0, ha0⟩ := hf (s[0]'p0)
  obtain ⟨hh1, ha1⟩ := hf (s[1]'p1)
  clear hf hown
  have hl : dl s = s[0]'p0 :: s[1]'p1 :: (dl s).drop 2 := by
    have e0 := dl_drop s 0 p0
    have e1 := dl_drop s 1 p1
    rw [List.drop_zero] at e0
    rw [e1] at e0
    exact e0
  have hge : ¬ (s.size : Int) < 2 := by omega
  have p0' : (0 : Int) < (s.size : Int) := by omega
  have p1' : (1 : Int) < (s.size : Int) := by omega
  cases hx : Pl.hexv (s[0]'p0) with
  | none =>
    have hV := Lib.hid (show pairV (dl s) = .tuple #[.int .u8 0, .bool false] by
      unfold pairV
      rw [hl, Pl.pair, hx])
    rw [hx] at hh0 ha0
    simp only [Option.isSome_none, Option.getD_none] at hh0 ha0
    clear hx hl ha0 ha1 h2
    go_enter Try.func30, Try.ntmps30
    go_wp2_with (first
      | (at_lookup; refine wpList_lookup_own_ok_int _ rfl _ _ 44 rfl 5 3 .i64 law5 Try.underlying44 Try.underlying3 (zero3 _) b n _ rfl Hown.out _ _ rfl k0 ?_; intro c0 hat0 hwc0)
      | (at_lookup; refine wpList_lookup_own_ok_int _ rfl _ _ 44 rfl 5 3 .i64 law5 Try.underlying44 Try.underlying3 (zero3 _) b n _ rfl Hown.out _ _ rfl k1 ?_; intro c1 hat1 hwc1))
    go_ret2
    exact ⟨hV.out.symm ▸ rfl, ⟨0, rfl⟩⟩
  | some x =>
    rw [hx] at hh0 ha0
    simp only [Option.isSome_some, Option.getD_some] at hh0 ha0
    cases hy : Pl.hexv (s[1]'p1) with
    | none =>
      have hV := Lib.hid (show pairV (dl s) = .tuple #[.int .u8 0, .bool false] by
        unfold pairV
        rw [hl, Pl.pair, hx, hy])
      rw [hy] at hh1 ha1
      simp only [Option.isSome_none, Option.getD_none] at hh1 ha1
      clear hx hy hl ha0 ha1 h2
      go_enter Try.func30, Try.ntmps30
      go_wp2_with (first
        | (at_lookup; refine wpList_lookup_own_ok_int _ rfl _ _ 44 rfl 5 3 .i64 law5 Try.underlying44 Try.underlying3 (zero3 _) b n _ rfl Hown.out _ _ rfl k0 ?_; intro c0 hat0 hwc0)
        | (at_lookup; refine wpList_lookup_own_ok_int _ rfl _ _ 44 rfl 5 3 .i64 law5 Try.underlying44 Try.underlying3 (zero3 _) b n _ rfl Hown.out _ _ rfl k1 ?_; intro c1 hat1 hwc1))
      go_ret2
      exact ⟨hV.out.symm ▸ rfl, ⟨0, rfl⟩⟩
    | some y =>
      have hx16 := Pl.hexv_lt _ _ hx
      have hy16 := Pl.hexv_lt _ _ hy
      have hV := Lib.hid (show pairV (dl s) = .tuple #[.int .u8 (IntKind.u8.wrap (bits .or .i64 ((x : Int) * 16) (y : Int))), .bool true] by
        unfold pairV
        rw [hl, Pl.pair, hx, hy, pair_byte x y hx16 hy16])
      rw [hy] at hh1 ha1
      simp only [Option.isSome_some, Option.getD_some] at hh1 ha1
      have Ha0 := Lib.hid ha0
      have Ha1 := Lib.hid ha1
      clear hx hy hl h2 ha0 ha1
      go_enter Try.func30, Try.ntmps30
      go_wp2_with (first
        | (at_lookup; refine wpList_lookup_own_ok_int _ rfl _ _ 44 rfl 5 3 .i64 law5 Try.underlying44 Try.underlying3 (zero3 _) b n _ rfl Hown.out _ _ rfl k0 ?_; intro c0 hat0 hwc0; have Hc0 : Hid (c0 = (x : Int)) := Lib.hid (by (have h9 := hat0.symm.trans Ha0.out; simpa using h9)); have lc0 := Hc0.out; have mc0 : 0 ≤ c0 := (by omega); have nc0 : c0 < 16 := (by omega); clear hat0 lc0)
        | (at_lookup; refine wpList_lookup_own_ok_int _ rfl _ _ 44 rfl 5 3 .i64 law5 Try.underlying44 Try.underlying3 (zero3 _) b n _ rfl Hown.out _ _ rfl k1 ?_; intro c1 hat1 hwc1; have Hc1 : Hid (c1 = (y : Int)) := Lib.hid (by (have h9 := hat1.symm.trans Ha1.out; simpa using h9)); have lc1 := Hc1.out; have mc1 : 0 ≤ c1 := (by omega); have nc1 : c1 < 16 := (by omega); clear hat1 lc1))
      go_ret2
      rw [hV.out, ← Hc0.out, ← Hc1.out]
      exact ⟨rfl, ⟨0, rfl⟩⟩
end Go.Proofs.Ytfephmhphkmegaa.Hd
