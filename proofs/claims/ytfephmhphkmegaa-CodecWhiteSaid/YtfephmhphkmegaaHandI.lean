/- codec.Unquoted. -/
import Derived.Test.YtfephmhphkmegaaHandH
namespace Go.Proofs.Ytfephmhphkmegaa.Hd
open Go.RowKit Go.Maps Go.Proofs.YtfephmhphkmegaaW.PrintWords Go.Proofs.YtfephmhphkmegaaW.PrintLast Go.Proofs.YtfephmhphkmegaaW.PrintMore
set_option linter.unusedVariables false
set_option linter.unusedSimpArgs false

theorem unq_skip : ∀ (t : List UInt8) k, Pl.unq t k = Pl.unq (t.drop k) 0
  | [], 0 => rfl
  | [], k + 1 => rfl
  | c :: t, 0 => rfl
  | c :: t, k + 1 => by rw [Pl.unq, List.drop_succ_cons, unq_skip t k]
theorem lineEnd_le : ∀ (l : List UInt8) n, Pl.lineEnd l = some n → n ≤ l.length
  | [], n, h => by rw [Pl.lineEnd] at h; cases h; simp
  | c :: t, n, h => by
    rw [Pl.lineEnd] at h
    split at h
    · cases hl : Pl.lineEnd t with
      | none => rw [hl] at h; cases h
      | some m =>
        rw [hl] at h
        have := lineEnd_le t m hl
        simp only [Option.map_some, Option.some.injEq] at h
        simp only [List.length_cons]
        omega
    · split at h
      · cases h; simp
      · split at h
        · rename_i h13
          cases h
          cases t with
          | nil => simp [Pl.is10] at h13
          | cons d u => simp
        · cases h
theorem ends_drop : ∀ l : List UInt8, Pl.ends l = Pl.ends (l.drop (nb l))
  | [] => rfl
  | c :: t => by
    by_cases hb : Pl.bl c = true
    · rw [Pl.ends, if_pos hb, nb, if_pos hb, List.drop_succ_cons, ends_drop t]
    · rw [nb, if_neg hb, List.drop_zero]
theorem unq_blanks : ∀ l : List UInt8, Pl.unq l 0 = if Pl.ends l = true then Pl.unq (l.drop (nb l)) 0 else (l.take (nb l) ++ (Pl.unq (l.drop (nb l)) 0).1, (Pl.unq (l.drop (nb l)) 0).2)
  | [] => by simp [Pl.ends, nb]
  | c :: t => by
    by_cases hb : Pl.bl c = true
    · have h61 : c ≠ 61 := by rintro rfl; exact absurd hb (by decide)
      have ih := unq_blanks t
      rw [Pl.unq, if_neg h61, if_pos hb, nb, if_pos hb, List.drop_succ_cons, List.take_succ_cons]
      rw [show Pl.ends (c :: t) = Pl.ends t by rw [Pl.ends, if_pos hb]]
      by_cases he : Pl.ends t = true
      · rw [if_pos he, if_pos he]
        rw [if_pos he] at ih
        exact ih
      · rw [if_neg he, if_neg he]
        rw [if_neg he] at ih
        rw [ih]
        rfl
    · rw [nb, if_neg hb]
      simp
theorem nb_pos {c : UInt8} {t : List UInt8} (h : Pl.bl c = true) : 1 ≤ nb (c :: t) := by rw [nb, if_pos h]; omega

set_option maxHeartbeats 8000000 in
set_option maxRecDepth 100000 in
theorem Unquoted_calls (s : ByteArray) (hs : s.size ≤ 100000000) (w : World) :
    Calls Try.prog 13 #[.string s] w fun e w' => e = .returned (.tuple #[.string ⟨(Pl.unq (dl s) 0).1.toArray⟩, .bool (Pl.unq (dl s) 0).2]) ∧ Below w.heap.size w w' := by
  go_enter Try.func13, Try.ntmps13
  go_wp2_with (first
    | (go_at_call 29; refine (hexValues_calls _).mono ?_; rintro e w1 ⟨rfl, hT1, hB1⟩; have HT1 := Lib.hid hT1; have HB1 := Lib.hid hB1; clear hT1 hB1)
    | (at_make; refine HandW.R_make0 (Kd.int .u8) _ 5 rfl (N := 18) rfl 24 _ _ rfl (s.size : Int) rfl rfl Try.underlying24 (.int .u8 0) 1 info5 (by omega) (ok := fun _ => True) trivial (by omega) (by omega) (Below.refl _ _) (Nat.le_refl _) ?_; intro v5 w3 ho3 hb3 _ _))
  have HR3 := Lib.hid (BR.of_R ho3)
  have HT3 := Lib.hid (HT1.out.below hb3 HT1.out.lt)
  have hlt1 : w.heap.size < w1.heap.size := HT1.out.lt
  have HB3 := Lib.hid (HB1.out.trans (hb3.mono HB1.out.size))
  have hs3 := hb3.size
  clear ho3 hb3
  go_loopw [5, 6, 7] (fun v b i wr => ∃ (k : Nat) (out : List UInt8) (ok : Bool), i = .int .i64 k ∧ b = .bool ok ∧ k ≤ s.size ∧ out.length ≤ k ∧ Hid (out ++ (Pl.unq ((dl s).drop k) 0).1 = (Pl.unq (dl s) 0).1) ∧ Hid ((ok && (Pl.unq ((dl s).drop k) 0).2) = (Pl.unq (dl s) 0).2) ∧
      Hid (BR wr w1.heap.size v out) ∧ Hid (IsTab wr w.heap.size 32 Pl.hexv) ∧ Hid (Below w.heap.size w wr) ∧ w1.heap.size ≤ wr.heap.size) (fun _ _ i _ => s.size - (intOf i).toNat)
  case atStart => exact ⟨0, [], true, rfl, rfl, by omega, by simp, Lib.hid rfl, Lib.hid (by simp), HR3, HT3, HB3, hs3⟩
  case round =>
    obtain ⟨k, out, ok, rfl, rfl, hk, hol, HE1, HE2, HR, HT, HB, hsz⟩ := hrel
    by_cases hlt : k < s.size
    · have hlt' : (k : Int) < (s.size : Int) := by omega
      obtain ⟨c, hc⟩ : ∃ c : UInt8, s[k]'hlt = c := ⟨_, rfl⟩
      have hcn : ∀ h : k < s.size, (s[k]'h).toNat = c.toNat := fun _ => by rw [hc]
      have HD := Aside0.mk (dl_drop s k hlt)
      have hD := HD.out
      rw [hc] at hD
      have HC := Aside0.mk hc
      have q5 : (0 : Int) ≤ (k : Int) + 1 := by omega
      have q6 : (k : Int) + 1 ≤ (s.size : Int) := by omega
      have q7 : ((k : Int) + 1).toNat = k + 1 := by omega
      have hcr := c.toNat_lt
      clear hc
      by_cases h61 : c = 61
      · subst h61
        have HE1' := HE1.out
        have HE2' := HE2.out
        rw [hD, Pl.unq, if_pos rfl] at HE1' HE2'
        clear hD
        have hpr := fun W hT => pair_c (s.extract (k + 1) s.size) (by rw [ext_size s _ _ (Nat.le_refl _)]; omega) w.heap.size 32 W hT
        have hle := lineEnd_c (s.extract (k + 1) s.size) (by rw [ext_size s _ _ (Nat.le_refl _)]; omega)
        rw [show dl (s.extract (k + 1) s.size) = (dl s).drop (k + 1) from dl_tail s (k + 1)] at hpr hle
        cases hp : Pl.pair ((dl s).drop (k + 1)) with
        | some v =>
          have hln := pair_len hp
          rw [List.length_drop, dl_length] at hln
          rw [hp] at HE1' HE2'
          rw [show pairV ((dl s).drop (k + 1)) = .tuple #[.int .u8 (v.toNat : Int), .bool true] by unfold pairV; rw [hp]] at hpr
          have hsk : Pl.unq ((dl s).drop (k + 1)) 2 = Pl.unq ((dl s).drop (k + 3)) 0 := by rw [unq_skip, List.drop_drop]
          rw [hsk] at HE1' HE2'
          have HE1 := Lib.hid HE1'
          have HE2 := Lib.hid HE2'
          clear HE1' HE2' hp hsk hle
          go_wp2_with (first
            | (go_at_call 30; refine (hpr _ HT.out).mono ?_; rintro e w4 ⟨rfl, hd9⟩; have HR4 := Lib.hid (HR.out.below hd9.below); have HT4 := Lib.hid (HT.out.below hd9.below HT.out.lt); have HB4 := Lib.hid (HB.out.trans (hd9.below.mono HB.out.size)); have hsz4 : w1.heap.size ≤ w4.heap.size := Nat.le_trans hsz hd9.below.size; clear hd9)
            | (at_builtin; (with_reducible apply wp_app (w := w4) (m := [v]) (n := 1) (l := out) (base := w1.heap.size)); (case hgd => rfl); (case ho => rfl); (case hs => rfl); (case hm => rfl); (case hcs => rfl); (case hx => rfl); (case hB => exact HR4.out); (case hb => exact hsz4); (case hl => simp only [List.length_singleton]; omega); intro v8 w6 ho6 hb6))
          go_roundw
          case rel =>
            refine ⟨k + 3, out ++ [v], ok, by go_num, rfl, by omega, by simp only [List.length_append, List.length_singleton]; omega, Lib.hid ?_, Lib.hid ?_, Lib.hid ho6, Lib.hid (HT4.out.below hb6 hlt1), Lib.hid (HB4.out.trans (hb6.mono (by omega))), Nat.le_trans hsz4 hb6.size⟩
            · rw [← HE1.out]; simp
            · rw [← HE2.out]
          case measure => simp [intOf]; omega
        | none =>
          rw [hp] at HE1' HE2'
          rw [show pairV ((dl s).drop (k + 1)) = .tuple #[.int .u8 0, .bool false] by unfold pairV; rw [hp]] at hpr
          clear hp
          cases hl : Pl.lineEnd ((dl s).drop (k + 1)) with
          | some n =>
            have hln := lineEnd_le _ _ hl
            rw [List.length_drop, dl_length] at hln
            rw [hl] at HE1' HE2'
            rw [show leV ((dl s).drop (k + 1)) = .tuple #[.int .i64 (n : Int), .bool true] by unfold leV; rw [hl]] at hle
            have hsk : Pl.unq ((dl s).drop (k + 1)) n = Pl.unq ((dl s).drop (k + (1 + n))) 0 := by rw [unq_skip, List.drop_drop, Nat.add_assoc]
            simp only [hsk] at HE1' HE2'
            have HE1 := Lib.hid HE1'
            have HE2 := Lib.hid HE2'
            clear HE1' HE2' hl hsk
            go_wp2_with (first
              | (go_at_call 30; refine (hpr _ HT.out).mono ?_; rintro e w4 ⟨rfl, hd9⟩; have HR4 := Lib.hid (HR.out.below hd9.below); have HT4 := Lib.hid (HT.out.below hd9.below HT.out.lt); have HB4 := Lib.hid (HB.out.trans (hd9.below.mono HB.out.size)); have hsz4 : w1.heap.size ≤ w4.heap.size := Nat.le_trans hsz hd9.below.size; clear hd9)
              | (go_at_call 31; refine (hle _).mono ?_; rintro e w5 ⟨rfl, hd9⟩; have HR5 := Lib.hid (HR4.out.below hd9.below); have HT5 := Lib.hid (HT4.out.below hd9.below HT4.out.lt); have HB5 := Lib.hid (HB4.out.trans (hd9.below.mono HB4.out.size)); have hsz5 : w1.heap.size ≤ w5.heap.size := Nat.le_trans hsz4 hd9.below.size; clear hd9))
            go_roundw
            case rel =>
              refine ⟨k + (1 + n), out, ok, by go_num, rfl, by omega, by omega, Lib.hid ?_, Lib.hid ?_, HR5, HT5, HB5, hsz5⟩
              · rw [← HE1.out]
              · rw [← HE2.out]
            case measure => simp [intOf]; omega
          | none =>
            rw [hl] at HE1' HE2'
            rw [show leV ((dl s).drop (k + 1)) = .tuple #[.int .i64 0, .bool false] by unfold leV; rw [hl]] at hle
            have HE1 := Lib.hid HE1'
            have HE2 := Lib.hid HE2'
            clear HE1' HE2' hl
            go_wp2_with (first
              | (go_at_call 30; refine (hpr _ HT.out).mono ?_; rintro e w4 ⟨rfl, hd9⟩; have HR4 := Lib.hid (HR.out.below hd9.below); have HT4 := Lib.hid (HT.out.below hd9.below HT.out.lt); have HB4 := Lib.hid (HB.out.trans (hd9.below.mono HB.out.size)); have hsz4 : w1.heap.size ≤ w4.heap.size := Nat.le_trans hsz hd9.below.size; clear hd9)
              | (go_at_call 31; refine (hle _).mono ?_; rintro e w5 ⟨rfl, hd9⟩; have HR5 := Lib.hid (HR4.out.below hd9.below); have HT5 := Lib.hid (HT4.out.below hd9.below HT4.out.lt); have HB5 := Lib.hid (HB4.out.trans (hd9.below.mono HB4.out.size)); have hsz5 : w1.heap.size ≤ w5.heap.size := Nat.le_trans hsz4 hd9.below.size; clear hd9)
              | (at_builtin; (with_reducible apply wp_app (w := w5) (m := [61]) (n := 1) (l := out) (base := w1.heap.size)); (case hgd => rfl); (case ho => rfl); (case hs => rfl); (case hm => rfl); (case hcs => rfl); (case hx => rfl); (case hB => exact HR5.out); (case hb => exact hsz5); (case hl => simp only [List.length_singleton]; omega); intro v8 w6 ho6 hb6))
            go_roundw
            case rel =>
              refine ⟨k + 1, out ++ [61], false, by go_num, rfl, by omega, by simp only [List.length_append, List.length_singleton]; omega, Lib.hid ?_, Lib.hid ?_, Lib.hid ho6, Lib.hid (HT5.out.below hb6 hlt1), Lib.hid (HB5.out.trans (hb6.mono (by omega))), Nat.le_trans hsz5 hb6.size⟩
              · rw [← HE1.out]; simp
              · rw [← HE2.out]; simp
            case measure => simp [intOf]; omega
      · have h61n : c.toNat ≠ 61 := fun e => h61 (UInt8.toNat_inj.1 e)
        have hn61 : ((c.toNat : Int) == 61) = false := by simp; omega
        have hbk := blank_c c
        by_cases hbl : Pl.bl c = true
        · rw [hbl] at hbk
          have HE1' := HE1.out
          have HE2' := HE2.out
          rw [unq_blanks] at HE1' HE2'
          have hnb := nb_le ((dl s).drop k)
          have hnp : 1 ≤ nb ((dl s).drop k) := by rw [hD]; exact nb_pos hbl
          rw [List.length_drop, dl_length] at hnb
          have hst := nb_stop ((dl s).drop k)
          have hed := ends_drop ((dl s).drop k)
          have hbs := blanks_c (s.extract k s.size) (by rw [ext_size s _ _ (Nat.le_refl _)]; omega)
          rw [show dl (s.extract k s.size) = (dl s).drop k from dl_tail s k] at hbs
          obtain ⟨n, hn⟩ : ∃ n, n = nb ((dl s).drop k) := ⟨_, rfl⟩
          rw [← hn] at HE1' HE2' hnb hst hed hbs hnp
          rw [List.drop_drop] at HE1' HE2' hst hed
          have q8 : (0 : Int) ≤ (k : Int) + (n : Int) := by omega
          have q9 : (k : Int) + (n : Int) ≤ (s.size : Int) := by omega
          have q10 : ((k : Int) + (n : Int)).toNat = k + n := by omega
          have q11 : (k : Int) ≤ (s.size : Int) := by omega
          have q12 : (k : Int) ≤ (k : Int) + (n : Int) := by omega
          have hR := dl_tail s (k + n)
          have hez := ext_size s (k + n) s.size (Nat.le_refl _)
          have HM := Aside0.mk (show dl (s.extract k (k + n)) = ((dl s).drop k).take n by
            show (s.extract k (k + n)).data.toList = _
            rw [Lib.extract_data, Nat.add_sub_cancel_left])
          have HZ := Aside0.mk (ext_size s k (k + n) (by omega))
          have HNN := Aside0.mk hn
          clear hn hD
          cases hd : (dl s).drop (k + n) with
          | nil =>
            rw [hd] at hed hR
            rw [hed, if_pos (by rfl)] at HE1' HE2'
            have e1 : (s.extract (k + n) s.size).toList = [] := by rw [toList_dl, hR]
            have e2 : (s.extract (k + n) s.size).toList.isEmpty = true := by rw [e1]; rfl
            have HE1 := Lib.hid HE1'
            have HE2 := Lib.hid HE2'
            clear HE1' HE2' hst hed hR hez hd
            go_wp2_with (first
              | (go_at_call 32; refine (hbk _).mono ?_; rintro e w4 ⟨rfl, hd9⟩; have HR4 := Lib.hid (HR.out.below hd9.below); have HT4 := Lib.hid (HT.out.below hd9.below HT.out.lt); have HB4 := Lib.hid (HB.out.trans (hd9.below.mono HB.out.size)); have hsz4 : w1.heap.size ≤ w4.heap.size := Nat.le_trans hsz hd9.below.size; clear hd9)
              | (go_at_call 33; refine (hbs _).mono ?_; rintro e w5 ⟨rfl, hd9⟩; have HR5 := Lib.hid (HR4.out.below hd9.below); have HT5 := Lib.hid (HT4.out.below hd9.below HT4.out.lt); have HB5 := Lib.hid (HB4.out.trans (hd9.below.mono HB4.out.size)); have hsz5 : w1.heap.size ≤ w5.heap.size := Nat.le_trans hsz4 hd9.below.size; clear hd9))
            go_roundw
            case rel =>
              refine ⟨k + n, out, ok, by go_num, rfl, by omega, by omega, Lib.hid ?_, Lib.hid ?_, HR5, HT5, HB5, hsz5⟩
              · rw [← HE1.out]
              · rw [← HE2.out]
            case measure => simp [intOf]; omega
          | cons d t =>
            have hbd := hst d t hd
            rw [hd, Pl.ends, if_neg (by simp [hbd])] at hed
            rw [hd] at hR
            have hp0 : 0 < (s.extract (k + n) s.size).size := by
              have := congrArg List.length hR
              rw [dl_length, List.length_cons] at this
              omega
            have hp1 : (0 : Int) < ((s.extract (k + n) s.size).size : Int) := by omega
            have hx : ∀ h : 0 < (s.extract (k + n) s.size).size, ((s.extract (k + n) s.size)[0]'h).toNat = d.toNat := by
              intro h
              have := dl_at (s.extract (k + n) s.size) 0 h
              rw [hR] at this
              simp at this
              rw [this]
            have e1 : ¬ (s.extract (k + n) s.size).toList = [] := by rw [toList_dl, hR]; simp
            have e2 : (s.extract (k + n) s.size).toList.isEmpty = false := by rw [toList_dl, hR]; rfl
            have hkn : k + n < s.size := by rw [hez] at hp0; omega
            have hkn' : (k : Int) + (n : Int) < (s.size : Int) := by omega
            have hpre := Try.strings_HasPrefix (s.extract (k + n) s.size) ⟨#[13, 10]⟩
            rw [show (s.extract (k + n) s.size).data.toList = d :: t from hR] at hpre
            have hpq : Lib.hasPrefix (d :: t) [13, 10] = decide (d = 13 ∧ Pl.is10 t = true) := by
              unfold Lib.hasPrefix
              rw [Bool.eq_iff_iff]
              cases t with
              | nil => simp [List.isPrefixOf, Pl.is10]
              | cons d2 u =>
                simp only [List.isPrefixOf, Pl.is10, Bool.and_true, Bool.and_eq_true, beq_iff_eq, decide_eq_true_eq]
                constructor
                · rintro ⟨h1, h2⟩
                  exact ⟨h1.symm, h2.symm⟩
                · rintro ⟨h1, h2⟩
                  exact ⟨h1.symm, h2.symm⟩
            rw [show (⟨#[13, 10]⟩ : ByteArray).data.toList = [13, 10] from rfl, hpq] at hpre
            clear hpq hR hez hst
            by_cases hd10 : d = 10
            · rw [hed, if_pos (by rw [hd10]; rfl)] at HE1' HE2'
              have hc1 : ((d.toNat : Int) == 10) = true := by rw [hd10]; rfl
              have hc2 : (d.toNat : Int) = 10 := by rw [hd10]; rfl
              have HE1 := Lib.hid HE1'
              have HE2 := Lib.hid HE2'
              clear HE1' HE2' hed hd hd10
              go_wp2_with (first
                | (go_at_call 32; refine (hbk _).mono ?_; rintro e w4 ⟨rfl, hd9⟩; have HR4 := Lib.hid (HR.out.below hd9.below); have HT4 := Lib.hid (HT.out.below hd9.below HT.out.lt); have HB4 := Lib.hid (HB.out.trans (hd9.below.mono HB.out.size)); have hsz4 : w1.heap.size ≤ w4.heap.size := Nat.le_trans hsz hd9.below.size; clear hd9)
                | (go_at_call 33; refine (hbs _).mono ?_; rintro e w5 ⟨rfl, hd9⟩; have HR5 := Lib.hid (HR4.out.below hd9.below); have HT5 := Lib.hid (HT4.out.below hd9.below HT4.out.lt); have HB5 := Lib.hid (HB4.out.trans (hd9.below.mono HB4.out.size)); have hsz5 : w1.heap.size ≤ w5.heap.size := Nat.le_trans hsz4 hd9.below.size; clear hd9))
              go_roundw
              case rel =>
                refine ⟨k + n, out, ok, by go_num, rfl, by omega, by omega, Lib.hid ?_, Lib.hid ?_, HR5, HT5, HB5, hsz5⟩
                · rw [← HE1.out]
                · rw [← HE2.out]
              case measure => simp [intOf]; omega
            · have hd10n : d.toNat ≠ 10 := fun e => hd10 (UInt8.toNat_inj.1 e)
              have hc1 : ((d.toNat : Int) == 10) = false := by simp; omega
              have hc2 : ¬ (d.toNat : Int) = 10 := by omega
              rw [decide_eq_false hd10, Bool.false_or] at hed
              by_cases h13 : d = 13 ∧ Pl.is10 t = true
              · rw [hed, if_pos (by rw [decide_eq_true h13.1, h13.2]; rfl)] at HE1' HE2'
                rw [decide_eq_true h13] at hpre
                have HE1 := Lib.hid HE1'
                have HE2 := Lib.hid HE2'
                clear HE1' HE2' hed hd h13
                go_wp2_with (first
                  | (go_at_call 32; refine (hbk _).mono ?_; rintro e w4 ⟨rfl, hd9⟩; have HR4 := Lib.hid (HR.out.below hd9.below); have HT4 := Lib.hid (HT.out.below hd9.below HT.out.lt); have HB4 := Lib.hid (HB.out.trans (hd9.below.mono HB.out.size)); have hsz4 : w1.heap.size ≤ w4.heap.size := Nat.le_trans hsz hd9.below.size; clear hd9)
                  | (go_at_call 33; refine (hbs _).mono ?_; rintro e w5 ⟨rfl, hd9⟩; have HR5 := Lib.hid (HR4.out.below hd9.below); have HT5 := Lib.hid (HT4.out.below hd9.below HT4.out.lt); have HB5 := Lib.hid (HB4.out.trans (hd9.below.mono HB4.out.size)); have hsz5 : w1.heap.size ≤ w5.heap.size := Nat.le_trans hsz4 hd9.below.size; clear hd9)
                  | (go_at_call 34; refine (hpre _).mono ?_; rintro e w7 ⟨rfl, rfl⟩))
                go_roundw
                case rel =>
                  refine ⟨k + n, out, ok, by go_num, rfl, by omega, by omega, Lib.hid ?_, Lib.hid ?_, HR5, HT5, HB5, hsz5⟩
                  · rw [← HE1.out]
                  · rw [← HE2.out]
                case measure => simp [intOf]; omega
              · have hee : ¬ (decide (d = 13) && Pl.is10 t) = true := by
                  intro h
                  rw [Bool.and_eq_true, decide_eq_true_eq] at h
                  exact h13 h
                rw [hed, if_neg hee] at HE1' HE2'
                rw [decide_eq_false h13] at hpre
                rw [← HM.out] at HE1'
                have HE1 := Lib.hid HE1'
                have HE2 := Lib.hid HE2'
                clear HE1' HE2' hed hd h13 hee
                go_wp2_with (first
                  | (go_at_call 32; refine (hbk _).mono ?_; rintro e w4 ⟨rfl, hd9⟩; have HR4 := Lib.hid (HR.out.below hd9.below); have HT4 := Lib.hid (HT.out.below hd9.below HT.out.lt); have HB4 := Lib.hid (HB.out.trans (hd9.below.mono HB.out.size)); have hsz4 : w1.heap.size ≤ w4.heap.size := Nat.le_trans hsz hd9.below.size; clear hd9)
                  | (go_at_call 33; refine (hbs _).mono ?_; rintro e w5 ⟨rfl, hd9⟩; have HR5 := Lib.hid (HR4.out.below hd9.below); have HT5 := Lib.hid (HT4.out.below hd9.below HT4.out.lt); have HB5 := Lib.hid (HB4.out.trans (hd9.below.mono HB4.out.size)); have hsz5 : w1.heap.size ≤ w5.heap.size := Nat.le_trans hsz4 hd9.below.size; clear hd9)
                  | (go_at_call 34; refine (hpre _).mono ?_; rintro e w7 ⟨rfl, rfl⟩)
                  | (at_builtin; refine wp_str rfl _ _ rfl w1.heap.size _ out (s.extract k (k + n)) rfl rfl HR5.out hsz5 (by rw [HZ.out]; omega) ?_; intro v8 w6 ho6 hb6))
                go_roundw
                case rel =>
                  refine ⟨k + n, out ++ dl (s.extract k (k + n)), ok, by go_num, rfl, by omega, by rw [List.length_append, dl_length, HZ.out]; omega, Lib.hid ?_, Lib.hid ?_, Lib.hid ho6, Lib.hid (HT5.out.below hb6 hlt1), Lib.hid (HB5.out.trans (hb6.mono (by omega))), Nat.le_trans hsz5 hb6.size⟩
                  · rw [← HE1.out]; simp
                  · rw [← HE2.out]
                case measure => simp [intOf]; omega
        · have hbl' : Pl.bl c = false := by simpa using hbl
          rw [hbl'] at hbk
          have HE1' := HE1.out
          have HE2' := HE2.out
          rw [hD, Pl.unq, if_neg h61, if_neg hbl] at HE1' HE2'
          have HE1 := Lib.hid HE1'
          have hwh := white_c c
          have HOK : Hid (Pl.okQ c = !(decide (c.toNat < 32) && !Pl.wh c || decide (126 < c.toNat))) := Lib.hid rfl
          have HE2 := Lib.hid HE2'
          clear HE1' HE2' hD hbl hbl'
          by_cases hw : Pl.wh c = true
          · rw [hw] at hwh
            have HW := Lib.hid hw
            clear hw
            by_cases d1 : c.toNat < 32
            · have hq : (c.toNat : Int) < 32 := by omega
              have hq2 : ¬ 126 < (c.toNat : Int) := by omega
              go_wp2_with (first
                | (go_at_call 32; refine (hbk _).mono ?_; rintro e w4 ⟨rfl, hd9⟩; have HR4 := Lib.hid (HR.out.below hd9.below); have HT4 := Lib.hid (HT.out.below hd9.below HT.out.lt); have HB4 := Lib.hid (HB.out.trans (hd9.below.mono HB.out.size)); have hsz4 : w1.heap.size ≤ w4.heap.size := Nat.le_trans hsz hd9.below.size; clear hd9)
                | (go_at_call 25; refine (hwh _).mono ?_; rintro e w5 ⟨rfl, hd9⟩; have HR5 := Lib.hid (HR4.out.below hd9.below); have HT5 := Lib.hid (HT4.out.below hd9.below HT4.out.lt); have HB5 := Lib.hid (HB4.out.trans (hd9.below.mono HB4.out.size)); have hsz5 : w1.heap.size ≤ w5.heap.size := Nat.le_trans hsz4 hd9.below.size; clear hd9)
                | (at_builtin; (with_reducible apply wp_app (w := w5) (m := [c]) (n := 1) (l := out) (base := w1.heap.size)); (case hgd => rfl); (case ho => rfl); (case hs => rfl); (case hm => rfl); (case hcs => rfl); (case hx => rfl); (case hB => exact HR5.out); (case hb => exact hsz5); (case hl => simp only [List.length_singleton]; omega); intro v8 w6 ho6 hb6))
              go_roundw
              case rel =>
                refine ⟨k + 1, out ++ [c], ok, by go_num, rfl, by omega, by simp only [List.length_append, List.length_singleton]; omega, Lib.hid ?_, Lib.hid ?_, Lib.hid ho6, Lib.hid (HT5.out.below hb6 hlt1), Lib.hid (HB5.out.trans (hb6.mono (by omega))), Nat.le_trans hsz5 hb6.size⟩
                · rw [← HE1.out]; simp
                · rw [← HE2.out, HOK.out, HW.out, decide_eq_true d1, decide_eq_false (show ¬ 126 < c.toNat by omega)]; simp
              case measure => simp [intOf]; omega
            · have hq : ¬ (c.toNat : Int) < 32 := by omega
              by_cases d2 : 126 < c.toNat
              · have hq2 : 126 < (c.toNat : Int) := by omega
                go_wp2_with (first
                  | (go_at_call 32; refine (hbk _).mono ?_; rintro e w4 ⟨rfl, hd9⟩; have HR4 := Lib.hid (HR.out.below hd9.below); have HT4 := Lib.hid (HT.out.below hd9.below HT.out.lt); have HB4 := Lib.hid (HB.out.trans (hd9.below.mono HB.out.size)); have hsz4 : w1.heap.size ≤ w4.heap.size := Nat.le_trans hsz hd9.below.size; clear hd9)
                  | (at_builtin; (with_reducible apply wp_app (w := w4) (m := [c]) (n := 1) (l := out) (base := w1.heap.size)); (case hgd => rfl); (case ho => rfl); (case hs => rfl); (case hm => rfl); (case hcs => rfl); (case hx => rfl); (case hB => exact HR4.out); (case hb => exact hsz4); (case hl => simp only [List.length_singleton]; omega); intro v8 w6 ho6 hb6))
                go_roundw
                case rel =>
                  refine ⟨k + 1, out ++ [c], false, by go_num, rfl, by omega, by simp only [List.length_append, List.length_singleton]; omega, Lib.hid ?_, Lib.hid ?_, Lib.hid ho6, Lib.hid (HT4.out.below hb6 hlt1), Lib.hid (HB4.out.trans (hb6.mono (by omega))), Nat.le_trans hsz4 hb6.size⟩
                  · rw [← HE1.out]; simp
                  · rw [← HE2.out, HOK.out, HW.out, decide_eq_false d1, decide_eq_true d2]; simp
                case measure => simp [intOf]; omega
              · have hq2 : ¬ 126 < (c.toNat : Int) := by omega
                go_wp2_with (first
                  | (go_at_call 32; refine (hbk _).mono ?_; rintro e w4 ⟨rfl, hd9⟩; have HR4 := Lib.hid (HR.out.below hd9.below); have HT4 := Lib.hid (HT.out.below hd9.below HT.out.lt); have HB4 := Lib.hid (HB.out.trans (hd9.below.mono HB.out.size)); have hsz4 : w1.heap.size ≤ w4.heap.size := Nat.le_trans hsz hd9.below.size; clear hd9)
                  | (at_builtin; (with_reducible apply wp_app (w := w4) (m := [c]) (n := 1) (l := out) (base := w1.heap.size)); (case hgd => rfl); (case ho => rfl); (case hs => rfl); (case hm => rfl); (case hcs => rfl); (case hx => rfl); (case hB => exact HR4.out); (case hb => exact hsz4); (case hl => simp only [List.length_singleton]; omega); intro v8 w6 ho6 hb6))
                go_roundw
                case rel =>
                  refine ⟨k + 1, out ++ [c], ok, by go_num, rfl, by omega, by simp only [List.length_append, List.length_singleton]; omega, Lib.hid ?_, Lib.hid ?_, Lib.hid ho6, Lib.hid (HT4.out.below hb6 hlt1), Lib.hid (HB4.out.trans (hb6.mono (by omega))), Nat.le_trans hsz4 hb6.size⟩
                  · rw [← HE1.out]; simp
                  · rw [← HE2.out, HOK.out, HW.out, decide_eq_false d1, decide_eq_false d2]; simp
                case measure => simp [intOf]; omega
          · have hw' : Pl.wh c = false := by simpa using hw
            rw [hw'] at hwh
            have HW := Lib.hid hw'
            clear hw hw'
            by_cases d1 : c.toNat < 32
            · have hq : (c.toNat : Int) < 32 := by omega
              have hq2 : ¬ 126 < (c.toNat : Int) := by omega
              go_wp2_with (first
                | (go_at_call 32; refine (hbk _).mono ?_; rintro e w4 ⟨rfl, hd9⟩; have HR4 := Lib.hid (HR.out.below hd9.below); have HT4 := Lib.hid (HT.out.below hd9.below HT.out.lt); have HB4 := Lib.hid (HB.out.trans (hd9.below.mono HB.out.size)); have hsz4 : w1.heap.size ≤ w4.heap.size := Nat.le_trans hsz hd9.below.size; clear hd9)
                | (go_at_call 25; refine (hwh _).mono ?_; rintro e w5 ⟨rfl, hd9⟩; have HR5 := Lib.hid (HR4.out.below hd9.below); have HT5 := Lib.hid (HT4.out.below hd9.below HT4.out.lt); have HB5 := Lib.hid (HB4.out.trans (hd9.below.mono HB4.out.size)); have hsz5 : w1.heap.size ≤ w5.heap.size := Nat.le_trans hsz4 hd9.below.size; clear hd9)
                | (at_builtin; (with_reducible apply wp_app (w := w5) (m := [c]) (n := 1) (l := out) (base := w1.heap.size)); (case hgd => rfl); (case ho => rfl); (case hs => rfl); (case hm => rfl); (case hcs => rfl); (case hx => rfl); (case hB => exact HR5.out); (case hb => exact hsz5); (case hl => simp only [List.length_singleton]; omega); intro v8 w6 ho6 hb6))
              go_roundw
              case rel =>
                refine ⟨k + 1, out ++ [c], false, by go_num, rfl, by omega, by simp only [List.length_append, List.length_singleton]; omega, Lib.hid ?_, Lib.hid ?_, Lib.hid ho6, Lib.hid (HT5.out.below hb6 hlt1), Lib.hid (HB5.out.trans (hb6.mono (by omega))), Nat.le_trans hsz5 hb6.size⟩
                · rw [← HE1.out]; simp
                · rw [← HE2.out, HOK.out, HW.out, decide_eq_true d1, decide_eq_false (show ¬ 126 < c.toNat by omega)]; simp
              case measure => simp [intOf]; omega
            · have hq : ¬ (c.toNat : Int) < 32 := by omega
              by_cases d2 : 126 < c.toNat
              · have hq2 : 126 < (c.toNat : Int) := by omega
                go_wp2_with (first
                  | (go_at_call 32; refine (hbk _).mono ?_; rintro e w4 ⟨rfl, hd9⟩; have HR4 := Lib.hid (HR.out.below hd9.below); have HT4 := Lib.hid (HT.out.below hd9.below HT.out.lt); have HB4 := Lib.hid (HB.out.trans (hd9.below.mono HB.out.size)); have hsz4 : w1.heap.size ≤ w4.heap.size := Nat.le_trans hsz hd9.below.size; clear hd9)
                  | (at_builtin; (with_reducible apply wp_app (w := w4) (m := [c]) (n := 1) (l := out) (base := w1.heap.size)); (case hgd => rfl); (case ho => rfl); (case hs => rfl); (case hm => rfl); (case hcs => rfl); (case hx => rfl); (case hB => exact HR4.out); (case hb => exact hsz4); (case hl => simp only [List.length_singleton]; omega); intro v8 w6 ho6 hb6))
                go_roundw
                case rel =>
                  refine ⟨k + 1, out ++ [c], false, by go_num, rfl, by omega, by simp only [List.length_append, List.length_singleton]; omega, Lib.hid ?_, Lib.hid ?_, Lib.hid ho6, Lib.hid (HT4.out.below hb6 hlt1), Lib.hid (HB4.out.trans (hb6.mono (by omega))), Nat.le_trans hsz4 hb6.size⟩
                  · rw [← HE1.out]; simp
                  · rw [← HE2.out, HOK.out, HW.out, decide_eq_false d1, decide_eq_true d2]; simp
                case measure => simp [intOf]; omega
              · have hq2 : ¬ 126 < (c.toNat : Int) := by omega
                go_wp2_with (first
                  | (go_at_call 32; refine (hbk _).mono ?_; rintro e w4 ⟨rfl, hd9⟩; have HR4 := Lib.hid (HR.out.below hd9.below); have HT4 := Lib.hid (HT.out.below hd9.below HT.out.lt); have HB4 := Lib.hid (HB.out.trans (hd9.below.mono HB.out.size)); have hsz4 : w1.heap.size ≤ w4.heap.size := Nat.le_trans hsz hd9.below.size; clear hd9)
                  | (at_builtin; (with_reducible apply wp_app (w := w4) (m := [c]) (n := 1) (l := out) (base := w1.heap.size)); (case hgd => rfl); (case ho => rfl); (case hs => rfl); (case hm => rfl); (case hcs => rfl); (case hx => rfl); (case hB => exact HR4.out); (case hb => exact hsz4); (case hl => simp only [List.length_singleton]; omega); intro v8 w6 ho6 hb6))
                go_roundw
                case rel =>
                  refine ⟨k + 1, out ++ [c], ok, by go_num, rfl, by omega, by simp only [List.length_append, List.length_singleton]; omega, Lib.hid ?_, Lib.hid ?_, Lib.hid ho6, Lib.hid (HT4.out.below hb6 hlt1), Lib.hid (HB4.out.trans (hb6.mono (by omega))), Nat.le_trans hsz4 hb6.size⟩
                  · rw [← HE1.out]; simp
                  · rw [← HE2.out, HOK.out, HW.out, decide_eq_false d1, decide_eq_false d2]; simp
                case measure => simp [intOf]; omega
    · have hd : (dl s).drop k = [] := List.drop_eq_nil_of_le (by rw [dl_length]; omega)
      have HE1' := HE1.out
      have HE2' := HE2.out
      rw [hd] at HE1' HE2'
      have hge : ¬ (k : Int) < (s.size : Int) := by omega
      have HF1 : Hid (out = (Pl.unq (dl s) 0).1) := Lib.hid (by rw [← HE1']; simp [Pl.unq])
      have HF2 : Hid (ok = (Pl.unq (dl s) 0).2) := Lib.hid (by rw [← HE2']; simp [Pl.unq])
      have hcv := HR.out.string
      clear hd HE1' HE2'
      go_wp2
      go_ret2
      refine ⟨?_, HB.out⟩
      show Ending.returned (.tuple #[.string ⟨out.toArray⟩, .bool ok]) = _
      rw [HF1.out, HF2.out]
end Go.Proofs.Ytfephmhphkmegaa.Hd
