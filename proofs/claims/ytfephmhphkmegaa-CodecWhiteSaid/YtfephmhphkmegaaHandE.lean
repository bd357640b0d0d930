/- codec.Base64, codec.Quoted, codec.Percent: what is written into a strings.Builder. -/
import Derived.Test.YtfephmhphkmegaaHandD
namespace Go.Proofs.Ytfephmhphkmegaa.Hd
open Go.RowKit Go.Maps Go.Proofs.YtfephmhphkmegaaW.PrintWords Go.Proofs.YtfephmhphkmegaaW.PrintLast Go.Proofs.YtfephmhphkmegaaW.PrintMore
attribute [local go_sem] max2_int min2_int max_two min_two
set_option linter.unusedVariables false
set_option linter.unusedSimpArgs false

def Bld (w : World) (b : Nat) (acc : List UInt8) : Prop := Lib.IsBuilderF 37 5 b b (Lib.byteCells acc) w
theorem strCells_mk (l : List UInt8) : Lib.strCells ⟨l.toArray⟩ = Lib.byteCells l := by simp [Lib.strCells, Lib.byteCells]
theorem Bld.str {w : World} {b : Nat} {acc l : List UInt8} (h : Bld w b acc) (hl : acc.length + l.length ≤ 1000000000000) (hb : b ≤ w.heap.size) :
    Calls Try.prog 20 #[.pointer (some ⟨b, 0, none⟩), .string ⟨l.toArray⟩] w fun e w' => ∃ v, e = .returned v ∧ Bld w' b (acc ++ l) ∧ Below b w w' := by
  refine (Try.Builder_WriteString_k b b _ ⟨l.toArray⟩ w h (by rw [Lib.byteCells_length]; simp [ByteArray.size]; omega) hb).mono ?_
  rintro e w' ⟨rfl, h1, h2, _⟩
  refine ⟨_, rfl, ?_, h2⟩
  rw [strCells_mk, ← Lib.byteCells_append] at h1
  exact Or.inr h1
theorem Bld.byte {w : World} {b : Nat} {acc : List UInt8} (h : Bld w b acc) (c : UInt8) (hl : acc.length + 1 ≤ 1000000000000) (hb : b ≤ w.heap.size) :
    Calls Try.prog 22 #[.pointer (some ⟨b, 0, none⟩), .int .u8 (c.toNat : Int)] w fun e w' => e = .returned .nilIface ∧ Bld w' b (acc ++ [c]) ∧ Below b w w' := by
  refine (Try.Builder_WriteByte_k b b _ (c.toNat : Int) w h (by rw [Lib.byteCells_length]; omega) hb).mono ?_
  rintro e w' ⟨rfl, h1, h2, _⟩
  refine ⟨rfl, ?_, h2⟩
  rw [show [Value.int .u8 (c.toNat : Int)] = Lib.byteCells [c] from rfl, ← Lib.byteCells_append] at h1
  exact Or.inr h1
theorem Bld.done {w : World} {b : Nat} {acc : List UInt8} (h : Bld w b acc) (hb : b ≤ w.heap.size) :
    Calls Try.prog 23 #[.pointer (some ⟨b, 0, none⟩)] w fun e w' => e = .returned (.string ⟨acc.toArray⟩) ∧ Below b w w' := by
  refine (Try.Builder_String_any_k b b acc w h hb).mono ?_
  rintro e w' ⟨rfl, _, h2, _⟩
  exact ⟨rfl, h2⟩
theorem Bld.below {w w' : World} {b : Nat} {acc : List UInt8} (h : Bld w b acc) (hB : Below w.heap.size w w') : Bld w' b acc := by
  have hg : w.grownBy w' none := ⟨hB.os, hB.tape, hB.output, hB.size, fun k hk _ => hB.block k hk⟩
  have key : ∀ p, Lib.BuilderAtF 37 5 b b p (Lib.byteCells acc) w → Lib.BuilderAtF 37 5 b b p (Lib.byteCells acc) w' := by
    rintro p ⟨h1, v, hb, hown, hne⟩
    have hlt : b < w.heap.size := (Array.getElem?_eq_some_iff.1 hb).1
    exact ⟨h1, v, (hB.block b hlt).trans hb, hown.kept hg (by cases v.ownBlock <;> simp), hne⟩
  exact h.imp (key _) (key _)
theorem Bld.start (w : World) : Bld (w.alloc (.cells #[.pointer none, .slice none 0 0] 37)) w.heap.size [] := Lib.IsBuilderF.of (Lib.fresh_isBuilder 37 5 w)
theorem Bld.lt {w : World} {b : Nat} {acc : List UInt8} (h : Bld w b acc) : b < w.heap.size := h.elim (·.lt) (·.lt)

/-! ### Base64 -/
theorem b64_last : ∀ l : List UInt8, l ≠ [] → l.length ≤ 3 → ∀ col, Pl.b64 l col = Pl.grp l ++ [10]
  | [], h, _, _ => absurd rfl h
  | [a], _, _, col => by
    rw [Pl.b64]
    · simp
    · simp
  | [a, b], _, _, col => by
    rw [Pl.b64]
    · simp
    · simp
  | [a, b, c], _, _, col => by
    rw [Pl.b64]
    · simp
    · simp
  | a :: b :: c :: d :: t, _, h, _ => by simp only [List.length_cons] at h; omega
theorem drop4 (s : ByteArray) (k : Nat) (h : k + 3 < s.size) : ∃ a b c d t, (dl s).drop k = a :: b :: c :: d :: t ∧ (dl s).drop (k + 3) = d :: t ∧ dl (s.extract k (k + 3)) = [a, b, c] := by
  have e0 := dl_drop s k (by omega)
  have e1 := dl_drop s (k + 1) (by omega)
  have e2 := dl_drop s (k + 2) (by omega)
  have e3 := dl_drop s (k + 3) h
  have e : (dl s).drop k = s[k] :: s[k + 1] :: s[k + 2] :: s[k + 3] :: (dl s).drop (k + 3 + 1) := by rw [e0, e1, e2, e3]
  refine ⟨_, _, _, _, _, e, e3, ?_⟩
  show (s.extract k (k + 3)).data.toList = _
  rw [Lib.extract_data, show s.data.toList.drop k = (dl s).drop k from rfl, e, show k + 3 - k = 3 by omega]
  rfl
theorem ext_size (s : ByteArray) (a b : Nat) (h : b ≤ s.size) : (s.extract a b).size = b - a := by
  have h1 : (s.extract a b).size = (s.extract a b).data.toList.length := (data_length _).symm
  rw [h1, Lib.extract_data, List.length_take, List.length_drop, data_length]
  omega
theorem grp3 (a b c : UInt8) : Pl.grp [a, b, c] = Pl.enc3 a b c := by simp [Pl.grp, Pl.digs, Pl.pad, Pl.padn]
set_option maxHeartbeats 1000000 in
theorem Base64_calls (s : ByteArray) (hs : s.size ≤ 100000000) (w : World) :
    Calls Try.prog 10 #[.string s] w fun e w' => e = .returned (.string ⟨(Pl.b64 (dl s) 0).toArray⟩) ∧ Below w.heap.size w w' := by
  go_enter Try.func10, Try.ntmps10
  go_wp2
  go_loopw [4, 5] (fun i c wr => ∃ (k col : Nat) (acc : List UInt8), i = .int .i64 k ∧ c = .int .i64 col ∧ k ≤ s.size + 3 ∧ (col ≤ 72 ∧ col % 4 = 0) ∧ Hid (acc ++ Pl.b64 ((dl s).drop k) col = Pl.b64 (dl s) 0) ∧ acc.length ≤ 5 * k ∧ Hid (Bld wr w.heap.size acc) ∧ Hid (Below w.heap.size w wr)) (fun i _ _ => s.size - (intOf i).toNat)
  case atStart => exact ⟨0, 0, [], rfl, rfl, by omega, by omega, Lib.hid rfl, by simp, Lib.hid (Bld.start w), Lib.hid ((Below.refl _ _).alloc (Nat.le_refl _) _)⟩
  case round =>
    obtain ⟨k, col, acc, rfl, rfl, hk, hcol, HE, hal, HI, HB⟩ := hrel
    by_cases hlt : k < s.size
    · have hlt' : (k : Int) < (s.size : Int) := by omega
      by_cases h3 : k + 3 < s.size
      · have h3' : (k : Int) + 3 < (s.size : Int) := by omega
        have q0 : (0 : Int) ≤ (k : Int) := by omega
        have q1 : (k : Int) ≤ (k : Int) + 3 := by omega
        have q2 : (k : Int) + 3 ≤ (s.size : Int) := by omega
        have q3 : ((k : Int) + 3).toNat = k + 3 := by omega
        have q4 : decide ((s.size : Int) ≤ (k : Int) + 3) = false := decide_eq_false (by omega)
        obtain ⟨a, b, c, d, t, hd, hd3, hx⟩ := drop4 s k h3
        have hgc := group_calls (s.extract k (k + 3)) (by rw [ext_size s _ _ (by omega)]; omega) (by rw [ext_size s _ _ (by omega)]; omega)
        rw [show (s.extract k (k + 3)).data.toList = [a, b, c] from hx, grp3] at hgc
        have he3 : (Pl.enc3 a b c).length = 4 := rfl
        have hal4 : acc.length + (Pl.enc3 a b c).length ≤ 1000000000000 := by omega
        have hal5 : (acc ++ Pl.enc3 a b c).length + 1 ≤ 1000000000000 := by rw [List.length_append]; omega
        have HD := Aside0.mk hd
        have HD3 := Aside0.mk hd3
        have HE' := HE.out
        rw [hd, Pl.b64] at HE'
        have HE2 := Lib.hid HE'
        have hbl := HB.out.size
        clear hd hd3 hx HE'
        by_cases h76 : col + 4 = 76
        · obtain rfl : col = 72 := by omega
          go_wp2_with (first
            | (go_at_call 21; refine (hgc _).mono ?_; rintro e w1 ⟨rfl, hb1⟩; have HI1 := Lib.hid (HI.out.below hb1); have HB1 := Lib.hid (HB.out.trans (hb1.mono hbl)); have hbl1 := HB1.out.size)
            | (go_at_call 20; refine (HI1.out.str (l := Pl.enc3 a b c) hal4 hbl1).mono ?_; rintro e w2 ⟨v2, rfl, hI2, hb2⟩; have HI2 := Lib.hid hI2; have HB2 := Lib.hid (HB1.out.trans hb2); have hbl2 := HB2.out.size; clear hI2)
            | (go_at_call 22; refine (HI2.out.byte 10 hal5 hbl2).mono ?_; rintro e w3 ⟨rfl, hI3, hb3⟩; have HI3 := Lib.hid hI3; have HB3 := Lib.hid (HB2.out.trans hb3); clear hI3))
          go_roundw
          case rel =>
            refine ⟨k + 3, 0, acc ++ Pl.enc3 a b c ++ [10], by go_num, by go_num, by omega, by omega, Lib.hid ?_, by simp only [List.length_append, List.length_singleton]; omega, HI3, HB3⟩
            rw [HD3.out, ← HE2.out]
            simp
          case measure => simp [intOf]; omega
        · have q5 : ((col : Int) + 4 == 76) = false := by simp; omega
          go_wp2_with (first
            | (go_at_call 21; refine (hgc _).mono ?_; rintro e w1 ⟨rfl, hb1⟩; have HI1 := Lib.hid (HI.out.below hb1); have HB1 := Lib.hid (HB.out.trans (hb1.mono hbl)); have hbl1 := HB1.out.size)
            | (go_at_call 20; refine (HI1.out.str (l := Pl.enc3 a b c) hal4 hbl1).mono ?_; rintro e w2 ⟨v2, rfl, hI2, hb2⟩; have HI2 := Lib.hid hI2; have HB2 := Lib.hid (HB1.out.trans hb2); have hbl2 := HB2.out.size; clear hI2))
          go_roundw
          case rel =>
            refine ⟨k + 3, col + 4, acc ++ Pl.enc3 a b c, by go_num, by go_num, by omega, by omega, Lib.hid ?_, by simp only [List.length_append]; omega, HI2, HB2⟩
            rw [HD3.out, ← HE2.out, if_neg h76]
            simp
          case measure => simp [intOf]; omega
      · have h3' : ¬ (k : Int) + 3 < (s.size : Int) := by omega
        have q0 : (0 : Int) ≤ (k : Int) := by omega
        have q1 : (k : Int) ≤ (s.size : Int) := by omega
        have q4 : decide ((s.size : Int) ≤ (k : Int) + 3) = true := decide_eq_true (by omega)
        have hmn : (if (s.size : Int) < (k : Int) + 3 then (s.size : Int) else (k : Int) + 3) = (s.size : Int) := by split <;> omega
        have hez := ext_size s k s.size (Nat.le_refl _)
        have hgc := group_calls (s.extract k s.size) (by rw [hez]; omega) (by rw [hez]; omega)
        have hl : ((dl s).drop k).length = s.size - k := by rw [List.length_drop, dl_length]
        rw [show (s.extract k s.size).data.toList = (dl s).drop k from dl_tail s k] at hgc
        obtain ⟨L, hL⟩ : ∃ L, L = (dl s).drop k := ⟨_, rfl⟩
        rw [← hL] at hgc hl
        have hgl : (Pl.grp L).length ≤ 4 := by
          have := hl
          match L, hl with
          | [], _ => simp [Pl.grp, Pl.digs, Pl.pad, Pl.padn]
          | [a], _ => simp [Pl.grp, Pl.digs, Pl.pad, Pl.padn]
          | [a, b], _ => simp [Pl.grp, Pl.digs, Pl.pad, Pl.padn]
          | [a, b, c], _ => simp [Pl.grp, Pl.digs, Pl.pad, Pl.padn, Pl.enc3]
          | a :: b :: c :: d :: t, h => simp only [List.length_cons] at h; omega
        have hal4 : acc.length + (Pl.grp L).length ≤ 1000000000000 := by omega
        have hal5 : (acc ++ Pl.grp L).length + 1 ≤ 1000000000000 := by rw [List.length_append]; omega
        have HE' := HE.out
        rw [← hL, b64_last L (by rintro rfl; simp at hl; omega) (by omega)] at HE'
        have HE2 := Lib.hid HE'
        have HL := Lib.hid hL
        have hbl := HB.out.size
        clear HE' hL hl hez
        by_cases heq : k + 3 = s.size
        · have q2 : (k : Int) + 3 = (s.size : Int) := by omega
          have HQ := Lib.hid q2
          go_wp2_with (first
            | (go_at_call 21; refine (hgc _).mono ?_; rintro e w1 ⟨rfl, hb1⟩; have HI1 := Lib.hid (HI.out.below hb1); have HB1 := Lib.hid (HB.out.trans (hb1.mono hbl)); have hbl1 := HB1.out.size)
            | (go_at_call 20; refine (HI1.out.str (l := Pl.grp L) hal4 hbl1).mono ?_; rintro e w2 ⟨v2, rfl, hI2, hb2⟩; have HI2 := Lib.hid hI2; have HB2 := Lib.hid (HB1.out.trans hb2); have hbl2 := HB2.out.size; clear hI2)
            | (go_at_call 22; refine (HI2.out.byte 10 hal5 hbl2).mono ?_; rintro e w3 ⟨rfl, hI3, hb3⟩; have HI3 := Lib.hid hI3; have HB3 := Lib.hid (HB2.out.trans hb3); clear hI3))
          all_goals
            go_roundw
            case rel =>
              refine ⟨s.size, 0, acc ++ Pl.grp L ++ [10], by rfl, by go_num, by omega, by omega, Lib.hid ?_, by simp only [List.length_append, List.length_singleton]; omega, HI3, HB3⟩
              rw [List.drop_eq_nil_of_le (by rw [dl_length]; omega), Pl.b64, List.append_nil, ← HE2.out, List.append_assoc]
            case measure => simp [intOf]; omega
        · go_wp2_with (first
            | (go_at_call 21; refine (hgc _).mono ?_; rintro e w1 ⟨rfl, hb1⟩; have HI1 := Lib.hid (HI.out.below hb1); have HB1 := Lib.hid (HB.out.trans (hb1.mono hbl)); have hbl1 := HB1.out.size)
            | (go_at_call 20; refine (HI1.out.str (l := Pl.grp L) hal4 hbl1).mono ?_; rintro e w2 ⟨v2, rfl, hI2, hb2⟩; have HI2 := Lib.hid hI2; have HB2 := Lib.hid (HB1.out.trans hb2); have hbl2 := HB2.out.size; clear hI2)
            | (go_at_call 22; refine (HI2.out.byte 10 hal5 hbl2).mono ?_; rintro e w3 ⟨rfl, hI3, hb3⟩; have HI3 := Lib.hid hI3; have HB3 := Lib.hid (HB2.out.trans hb3); clear hI3))
          all_goals
            go_roundw
            case rel =>
              refine ⟨k + 3, 0, acc ++ Pl.grp L ++ [10], by go_num, by go_num, by omega, by omega, Lib.hid ?_, by simp only [List.length_append, List.length_singleton]; omega, HI3, HB3⟩
              rw [List.drop_eq_nil_of_le (by rw [dl_length]; omega), Pl.b64, List.append_nil, ← HE2.out, List.append_assoc]
            case measure => simp [intOf]; omega
    · have hd : (dl s).drop k = [] := List.drop_eq_nil_of_le (by rw [dl_length]; omega)
      have HE' := HE.out
      rw [hd, Pl.b64, List.append_nil] at HE'
      have HE2 := Lib.hid HE'
      have hge : ¬ (k : Int) < (s.size : Int) := by omega
      have hbl := HB.out.size
      clear hd HE'
      go_wp2_with (go_at_call 23; refine (HI.out.done hbl).mono ?_; rintro e w1 ⟨rfl, hb1⟩)
      go_ret
      exact ⟨congrArg (fun l : List UInt8 => Ending.returned (.string ⟨l.toArray⟩)) HE2.out, HB.out.trans hb1⟩
end Go.Proofs.Ytfephmhphkmegaa.Hd
