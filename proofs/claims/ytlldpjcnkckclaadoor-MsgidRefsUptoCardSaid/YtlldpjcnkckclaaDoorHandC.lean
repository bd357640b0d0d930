/- msgid.lastOnes: by hand: a set of strings that the call makes and keeps to itself, two loops with appends. -/
import Derived.Test.YtlldpjcnkckclaaDoorHandA
import Derived.Maps.OwnSet
import Derived.Maps.AppendAt
import Derived.Maps.Views
import Derived.StringKeys
import Derived.Outline
namespace Go.Proofs.YtlldpjcnkckclaaDoor.Hand
open Go.RowKit Go.Maps Go.Proofs.YtlldpjcnkckclaaDoorW.PrintWords
set_option linter.unusedVariables false
set_option linter.unusedSimpArgs false

theorem law9 : Keyed Tryd.prog 9 := string_keyed Tryd.underlying9
theorem zero46 (w : World) : (zeroValue 46).run Tryd.prog w = .ok (.agg #[]) w := by kernel_rfl
theorem Tryd.info9 : (Tryd.prog.info? 9).map (fun i => (i.zero, i.size, i.bytes)) = some (some (.string ⟨#[]⟩), 1, 16) := by kernel_rfl

/-! ### a set of strings -/
def litOf (s : ByteArray) : Lit := .string s.data.toList
theorem litOf_inj {s t : ByteArray} (h : litOf s = litOf t) : s = t := by
  simp only [litOf, Lit.string.injEq] at h
  cases s; cases t
  simp only [ByteArray.mk.injEq]
  exact Array.toList_inj.1 h
/-- Block b is a map that holds just these keys. -/
def IsSet (w : World) (b n : Nat) (S : List ByteArray) : Prop := w.ownsMap Tryd.prog 9 (unitElem (H := Unit)) b n (setOf (.agg []) (S.map litOf))
theorem sameKey_lit (s t : ByteArray) : (litOf s).sameKey (litOf t) = decide (s = t) := by
  by_cases h : s = t
  · subst h
    simp [litOf, Lit.sameKey]
  · rw [decide_eq_false h]
    exact sameKey_ne (fun e => h (litOf_inj e))
def isIn (S : List ByteArray) (x : ByteArray) : Bool := S.any fun y => decide (y = x)
theorem isIn_iff (S : List ByteArray) (x : ByteArray) : isIn S x = true ↔ x ∈ S := by simp [isIn]
theorem has_set (S : List ByteArray) (x : ByteArray) : Maps.has (setOf (.agg [] : DataW Unit) (S.map litOf)) (litOf x) = isIn S x := by
  rw [has_setOf _ _ _ (fun y hy => by
    obtain ⟨s, _, rfl⟩ := List.mem_map.1 hy
    first | trivial | simp [litOf, WideAt.IsKeyLit])]
  unfold isIn
  rw [List.any_map]
  congr 1
  funext y
  exact sameKey_lit y x
theorem IsSet.start (w : World) : IsSet (w.alloc (.map #[] 0)) w.heap.size 0 [] := World.ownsMap_made _ _ _ _
theorem IsSet.put {w : World} {b n : Nat} {S : List ByteArray} {x : ByteArray} (h : w.ownsMap Tryd.prog 9 (unitElem (H := Unit)) b (n + 1) ((setOf (.agg []) (S.map litOf)).put (litOf x) (.agg []))) : IsSet w b (n + 1) (S ++ [x]) := by
  unfold IsSet
  rw [List.map_append]
  show w.ownsMap _ _ _ _ _ (setOf _ (_ ++ [litOf x]))
  rw [setOf_snoc]
  exact h

/-! ### what it computes -/
def keepGo : List ByteArray → List ByteArray → List ByteArray
  | acc, [] => acc
  | acc, x :: xs => if acc.length < 100 then (if isIn acc x = true then keepGo acc xs else keepGo (acc ++ [x]) xs) else acc
def lastOnes (l : List ByteArray) : List ByteArray := (keepGo [] l.reverse).reverse
theorem keepGo_full {acc xs : List ByteArray} (h : ¬ acc.length < 100) : keepGo acc xs = acc := by
  cases xs with
  | nil => rfl
  | cons x xs => rw [keepGo, if_neg h]
theorem keepGo_le (xs : List ByteArray) : ∀ acc, acc.length ≤ 100 → (keepGo acc xs).length ≤ 100 := by
  induction xs with
  | nil => intro acc h; exact h
  | cons x xs ih =>
    intro acc h
    rw [keepGo]
    split
    · split
      · exact ih _ h
      · exact ih _ (by simp; omega)
    · exact h

def lastOnesF (l : List ByteArray) : Option (List ByteArray) := if l.length ≤ 1073741824 ∧ l.all (fun s => decide (s.size ≤ 140737488355328)) = true then some (lastOnes l) else none

theorem strs_oneCell (zs : List ByteArray) : ∀ u ∈ zs.map Value.string, u.oneCell' = true := by
  intro u hu
  obtain ⟨_, _, rfl⟩ := List.mem_map.1 hu
  rfl
theorem row_ne' {w : World} {base n : Nat} {e : TypeId} {size : Nat} {v : Value} {xs : List Value} (h : w.ownsRow base e size v n xs) {b : Nat} (hb : b < base) : some b ≠ v.ownBlock := fun he => by
  have := (h.lt b he.symm).1
  omega

theorem take_rev (l : List ByteArray) (J : Int) (h0 : 0 ≤ J) (h1 : J < l.length) : (l.take (J + 1).toNat).reverse = rdOf ByteArray.empty l J :: (l.take J.toNat).reverse := by
  have e : (J + 1).toNat = J.toNat + 1 := by omega
  have hlt : J.toNat < l.length := by omega
  rw [e, List.take_succ_eq_append_getElem hlt, List.reverse_append]
  simp [rdOf, List.getD, hlt]
theorem rd_mem (l : List ByteArray) (J : Int) (h0 : 0 ≤ J) (h1 : J < l.length) : rdOf ByteArray.empty l J ∈ l := by
  have hlt : J.toNat < l.length := by omega
  simp [rdOf, List.getD, hlt]

set_option maxHeartbeats 2000000 in
set_option maxRecDepth 100000 in
theorem lastOnes_calls (A0 : Option Addr) (c0 : Nat) (l0 : List ByteArray) (r : List ByteArray) (w : World) (hr0 : Kd.C Kd.string w A0 l0.length l0) (hc0 : l0.length ≤ c0) (h : lastOnesF l0 = some r) :
    Calls Tryd.prog 31 #[.slice A0 l0.length c0] w fun e w' => ∃ v0_ : Value, e = .returned (v0_) ∧ Kd.R Kd.string 9 w' w.heap.size (fun _ => True) v0_ r ∧ Below w.heap.size w w' := by
  unfold lastOnesF at h
  split at h
  case isFalse => cases h
  rename_i hs
  obtain ⟨hlen, hall⟩ := hs
  have Hall := Lib.hid hall
  clear hall
  obtain rfl := Option.some.inj h
  clear h
  have HR := Lib.hid hr0
  clear hr0
  obtain ⟨i0, hi, hz0, hz1, hz2⟩ := info_parts Tryd.info9
  have hmm := @run_makeMap Tryd.prog
  go_enter Tryd.func31, Tryd.ntmps31
  go_wp2
  go_loopw [4, 5] (fun v i wr => ∃ (acc : List ByteArray) (J : Int), i = .int .i64 J ∧ -1 ≤ J ∧ J < l0.length ∧ Hid (keepGo acc (l0.take (J + 1).toNat).reverse = keepGo [] l0.reverse) ∧ acc.length ≤ 100 ∧
      Hid (IsSet wr w.heap.size (l0.length - (J + 1).toNat) acc) ∧ Hid (wr.ownsRow (w.heap.size + 1) 9 1 v acc.length (acc.map Value.string)) ∧ Below w.heap.size w wr ∧ w.heap.size + 1 ≤ wr.heap.size)
    (fun _ i _ => (intOf i + 1).toNat)
  case atStart =>
    refine ⟨[], (l0.length : Int) - 1, by first | rfl | go_num, by omega, by omega, ?_, by simp, ?_, World.ownsRow_nil _ _ _ _, (Below.refl _ _).alloc (Nat.le_refl _) _, by simp⟩
    · exact Lib.hid (by rw [show ((l0.length : Int) - 1 + 1).toNat = l0.length by omega, List.take_length])
    · exact Lib.hid ((IsSet.start w).mono (Nat.zero_le _))
  case round =>
    obtain ⟨acc, J, rfl, hJ0, hJ1, HK, hacc, HS, HO, hB, hsz⟩ := hrel
    by_cases hgo : 0 ≤ J ∧ acc.length < 100
    · obtain ⟨h0, hl⟩ := hgo
      obtain ⟨ad, rfl, hc⟩ := Kd.at_string HR.out J h0 hJ1
      have hc2 := (hB.cell (World.block_lt_of_cell? w _ hc)).trans hc
      have hc2' := Lib.hid hc2
      have hblt := World.block_lt_of_cell? w _ hc
      clear hc hc2
      have hx := rd_mem l0 J h0 hJ1
      have HT := Lib.hid (take_rev l0 J h0 hJ1)
      obtain ⟨x, hxe⟩ : ∃ x, x = rdOf ByteArray.empty l0 J := ⟨_, rfl⟩
      rw [← hxe] at hx
      have HX := Lib.hid hxe
      clear hxe
      have hcx := hc2'.out
      rw [← HX.out] at hcx
      have hca : ∀ o, (wr.alloc o).cell? (ad.add J.toNat) = some (.string x) := fun o => (World.cell?_alloc_lt wr o _ (by have := hB.size; omega)).trans hcx
      have hsx : x.size ≤ maxLen := by
        have := List.all_eq_true.1 Hall.out x hx
        have := of_decide_eq_true this
        unfold maxLen
        omega
      clear hx
      have hkey : keyOf Tryd.prog 9 (.string x) = some (litOf x) := Go.WideMaps.keyOf_string_mk Tryd.underlying9 hsx
      obtain ⟨A, c, rfl⟩ := own_slice HO.out
      by_cases hin : isIn acc x = true
      · have hhas : Maps.has (setOf (.agg [] : DataW Unit) (acc.map litOf)) (litOf x) = true := (has_set acc x).trans hin
        have Hin := Lib.hid hin
        clear hin
        go_wp2_with (at_lookup; refine wpList_lookup_own_unit _ rfl _ _ 45 rfl 9 46 law9 Tryd.underlying45 (zero46 _) w.heap.size _ _ rfl HS.out _ _ rfl hkey ?_)
        go_roundw
        case rel =>
          refine ⟨acc, J - 1, rfl, by omega, by omega, ?_, hacc, ?_, HO.out.alloc _, hB.alloc hB.size _, by simp; omega⟩
          · refine Lib.hid ?_
            rw [← HK.out, HT.out, ← HX.out, keepGo, if_pos hl, if_pos Hin.out, show J - 1 + 1 = J by omega]
          · exact Lib.hid ((HS.out.alloc _).mono (by omega))
        case measure => simp [intOf]; omega
      · have hhas : Maps.has (setOf (.agg [] : DataW Unit) (acc.map litOf)) (litOf x) = false := (has_set acc x).trans (by simpa using hin)
        have Hin := Lib.hid hin
        clear hin
        go_wp2_with (first
          | (at_lookup; refine wpList_lookup_own_unit _ rfl _ _ 45 rfl 9 46 law9 Tryd.underlying45 (zero46 _) w.heap.size _ _ rfl HS.out _ _ rfl hkey ?_)
          | (at_mapUpdate; (refine wpList_mapUpdate_own _ rfl _ _ _ 45 rfl 9 46 law9 Tryd.underlying45 (unitElem (H := Unit)) w.heap.size _ _ rfl (HS.out.alloc _) (by unfold maxLen; omega) _ _ _ rfl rfl hkey _ [] unitElem_mk ?_); intro w1 hown1 hgrow1; have hc1 := hgrow1.cell (hca _) (by intro e; injection e with e; omega))
          | (at_builtin; refine wpList_append_own _ rfl _ _ 31 rfl (w.heap.size + 1) 9 i0 (.string ⟨#[]⟩) 1 16 Tryd.underlying31 hi hz0 hz1 hz2 rfl (by decide) _ _ _ rfl (((HO.out.alloc _).kept hgrow1 (Or.inr (row_ne' HO.out (Nat.lt_succ_self _)).symm)).alloc _) ⟨w1.heap.size, 0, none⟩ 1 1 [.string x] rfl rfl (cell_one_new _ _ _) (strs_oneCell [x]) (by unfold maxLen; omega) (by omega) (by have := hgrow1.size; simp at this ⊢; omega) ?_; intro v' w2 hown' hgrow2 hnil2))
        have s1 := hgrow1.size
        have s2 := hgrow2.size
        simp at s1 s2
        have hr1 := (HO.out.alloc (.cells #[] 46)).kept hgrow1 (Or.inr (row_ne' HO.out (Nat.lt_succ_self _)).symm)
        go_roundw
        case rel =>
          refine ⟨acc ++ [x], J - 1, rfl, by omega, by omega, ?_, by simp; omega, ?_, ?_, ?_, by omega⟩
          · refine Lib.hid ?_
            rw [← HK.out, HT.out, ← HX.out, keepGo, if_pos hl, if_neg Hin.out, show J - 1 + 1 = J by omega]
          · refine Lib.hid ?_
            have h5 := IsSet.put hown1
            have h6 : l0.length - (J + 1).toNat + 1 = l0.length - (J - 1 + 1).toNat := by omega
            rw [← h6]
            exact (h5.alloc _).kept hgrow2 (row_ne' hr1 (Nat.lt_succ_self _))
          · exact Lib.hid (by simpa using hown')
          · exact ((((hB.alloc hB.size _).grown hgrow1 (by simp; omega) (fun j hj => by cases hj; exact Nat.le_refl _)).alloc (by omega) _).grown hgrow2 (by simp; omega) (fun j hj => Nat.le_trans (Nat.le_succ _) (hr1.lt j hj).1))
        case measure => simp [intOf]; omega
    · obtain ⟨A, c, rfl⟩ := own_slice HO.out
      have hend : acc = keepGo [] l0.reverse := by
        rw [← HK.out]
        by_cases h0 : 0 ≤ J
        · exact (keepGo_full (fun h => hgo ⟨h0, h⟩)).symm
        · rw [show (J + 1).toNat = 0 by omega]
          rfl
      have HE := Lib.hid hend
      clear hend
      by_cases h0 : 0 ≤ J
      · have hl : ¬ acc.length < 100 := fun h => hgo ⟨h0, h⟩
        obtain ⟨wo, rfl⟩ : ∃ wo : World, wo = wr := ⟨_, rfl⟩
        go_wp2_with (at_make; refine wpList_make_own _ rfl _ _ 31 rfl wo.heap.size 9 i0 _ 1 Tryd.underlying31 hi hz0 hz1 _ _ _ acc.length rfl rfl ?_ ?_ ?_ ?_ ?_)
        all_goals (try (first | omega | (rw [hz2]; omega) | (unfold maxLen; omega)))
        intro w2 hown2 hg2
        have hB2 := (Below.refl wo.heap.size wo).grown hg2 (Nat.le_refl _) (fun k hk => by cases hk)
        have HO2 := Lib.hid hown2
        clear hown2 hg2
        go_wp2
        go_loopw [8, 9] (fun v i wx => ∃ K : Int, i = .int .i64 K ∧ -1 ≤ K ∧ K < acc.length ∧ v = .slice (some ⟨wo.heap.size, 0, none⟩) (acc.length - (K + 1).toNat) acc.length ∧
            Hid (wx.ownsRow wo.heap.size 9 1 (.slice (some ⟨wo.heap.size, 0, none⟩) (acc.length - (K + 1).toNat) acc.length) (acc.length - (K + 1).toNat) ((acc.drop (K + 1).toNat).reverse.map Value.string)) ∧ Below wo.heap.size wo wx)
          (fun _ i _ => (intOf i + 1).toNat)
        case atStart =>
          refine ⟨(acc.length : Int) - 1, by first | rfl | go_num, by omega, by omega, ?_, ?_, hB2⟩
          · rw [show acc.length - ((acc.length : Int) - 1 + 1).toNat = 0 by omega]
          · rw [show ((acc.length : Int) - 1 + 1).toNat = acc.length by omega, Nat.sub_self, List.drop_length]
            exact HO2
        case round =>
          obtain ⟨K, rfl, hK0, hK1, rfl, HX, hBx⟩ := hrel
          by_cases hk : 0 ≤ K
          · have hkl : acc.length - (K + 1).toNat + 1 = acc.length - (K - 1 + 1).toNat := by omega
            have hkd : (acc.drop (K - 1 + 1).toNat).reverse = (acc.drop (K + 1).toNat).reverse ++ [rdOf ByteArray.empty acc K] := by
              have hlt : K.toNat < acc.length := by omega
              rw [show (K - 1 + 1).toNat = K.toNat by omega, show (K + 1).toNat = K.toNat + 1 by omega, List.drop_eq_getElem_cons hlt, List.reverse_cons]
              simp [rdOf, List.getD, hlt]
            have Hkl := Lib.hid hkl
            have Hkd := Lib.hid hkd
            clear hkl hkd
            have hRk : (Kd.string).R 9 wo (w.heap.size + 1) (fun _ => True) (.slice A acc.length c) acc := Kd.R_of_own HO.out (fun _ _ => trivial)
            obtain ⟨ad, hAd, hcx⟩ := Kd.at_string (Kd.R_reads' hRk).2.2 K hk hK1
            have hcx2 := (hBx.cell (World.block_lt_of_cell? wo _ hcx)).trans hcx
            clear hcx hRk
            have Hc := Lib.hid hcx2
            clear hcx2
            subst hAd
            have hcx := Hc.out
            have hfit : acc.length - (K + 1).toNat + 1 ≤ acc.length := by omega
            go_wp2_with (at_builtin; refine wpList_append_fits _ rfl _ _ 31 rfl wo.heap.size 9 i0 1 Tryd.underlying31 hi hz1 wo.heap.size (acc.length - (K + 1).toNat) acc.length ((acc.drop (K + 1).toNat).reverse.map Value.string) rfl (HX.out.alloc _) ⟨wr.heap.size, 0, none⟩ 1 1 [.string (rdOf ByteArray.empty acc K)] rfl rfl (cell_one_new _ _ _) (strs_oneCell [rdOf ByteArray.empty acc K]) hfit ?_; intro w3 hown3 hgrow3)
            have s3 := hgrow3.size
            simp at s3
            go_roundw
            case rel =>
              refine ⟨K - 1, rfl, by omega, by omega, by rw [Hkl.out], ?_, (hBx.alloc hBx.size _).grown hgrow3 (by have := hBx.size; simp; omega) (fun j hj => by cases hj; exact Nat.le_refl _)⟩
              refine Lib.hid ?_
              rw [← Hkl.out, Hkd.out, List.map_append]
              first | exact hown3 | simpa using hown3
            case measure => simp [intOf]; omega
          · have hrow := HX.out
            rw [show (K + 1).toNat = 0 by omega, List.drop_zero, Nat.sub_zero] at hrow
            have HX2 := Lib.hid hrow
            clear hrow
            rw [show (K + 1).toNat = 0 by omega, Nat.sub_zero]
            go_wp2
            go_ret
            refine ⟨_, rfl, ?_, hB.trans (hBx.mono hB.size)⟩
            unfold lastOnes
            rw [← HE.out]
            refine Kd.R_of_own ?_ (fun _ _ => trivial)
            have h9 := own_weaken HX2.out hB.size
            rw [List.length_reverse]
            exact h9
      · have hJn : J < 0 := by omega
        obtain ⟨wo, rfl⟩ : ∃ wo : World, wo = wr := ⟨_, rfl⟩
        go_wp2_with (at_make; refine wpList_make_own _ rfl _ _ 31 rfl wo.heap.size 9 i0 _ 1 Tryd.underlying31 hi hz0 hz1 _ _ _ acc.length rfl rfl ?_ ?_ ?_ ?_ ?_)
        all_goals (try (first | omega | (rw [hz2]; omega) | (unfold maxLen; omega)))
        intro w2 hown2 hg2
        have hB2 := (Below.refl wo.heap.size wo).grown hg2 (Nat.le_refl _) (fun k hk => by cases hk)
        have HO2 := Lib.hid hown2
        clear hown2 hg2
        go_wp2
        go_loopw [8, 9] (fun v i wx => ∃ K : Int, i = .int .i64 K ∧ -1 ≤ K ∧ K < acc.length ∧ v = .slice (some ⟨wo.heap.size, 0, none⟩) (acc.length - (K + 1).toNat) acc.length ∧
            Hid (wx.ownsRow wo.heap.size 9 1 (.slice (some ⟨wo.heap.size, 0, none⟩) (acc.length - (K + 1).toNat) acc.length) (acc.length - (K + 1).toNat) ((acc.drop (K + 1).toNat).reverse.map Value.string)) ∧ Below wo.heap.size wo wx)
          (fun _ i _ => (intOf i + 1).toNat)
        case atStart =>
          refine ⟨(acc.length : Int) - 1, by first | rfl | go_num, by omega, by omega, ?_, ?_, hB2⟩
          · rw [show acc.length - ((acc.length : Int) - 1 + 1).toNat = 0 by omega]
          · rw [show ((acc.length : Int) - 1 + 1).toNat = acc.length by omega, Nat.sub_self, List.drop_length]
            exact HO2
        case round =>
          obtain ⟨K, rfl, hK0, hK1, rfl, HX, hBx⟩ := hrel
          by_cases hk : 0 ≤ K
          · have hkl : acc.length - (K + 1).toNat + 1 = acc.length - (K - 1 + 1).toNat := by omega
            have hkd : (acc.drop (K - 1 + 1).toNat).reverse = (acc.drop (K + 1).toNat).reverse ++ [rdOf ByteArray.empty acc K] := by
              have hlt : K.toNat < acc.length := by omega
              rw [show (K - 1 + 1).toNat = K.toNat by omega, show (K + 1).toNat = K.toNat + 1 by omega, List.drop_eq_getElem_cons hlt, List.reverse_cons]
              simp [rdOf, List.getD, hlt]
            have Hkl := Lib.hid hkl
            have Hkd := Lib.hid hkd
            clear hkl hkd
            have hRk : (Kd.string).R 9 wo (w.heap.size + 1) (fun _ => True) (.slice A acc.length c) acc := Kd.R_of_own HO.out (fun _ _ => trivial)
            obtain ⟨ad, hAd, hcx⟩ := Kd.at_string (Kd.R_reads' hRk).2.2 K hk hK1
            have hcx2 := (hBx.cell (World.block_lt_of_cell? wo _ hcx)).trans hcx
            clear hcx hRk
            have Hc := Lib.hid hcx2
            clear hcx2
            subst hAd
            have hcx := Hc.out
            have hfit : acc.length - (K + 1).toNat + 1 ≤ acc.length := by omega
            go_wp2_with (at_builtin; refine wpList_append_fits _ rfl _ _ 31 rfl wo.heap.size 9 i0 1 Tryd.underlying31 hi hz1 wo.heap.size (acc.length - (K + 1).toNat) acc.length ((acc.drop (K + 1).toNat).reverse.map Value.string) rfl (HX.out.alloc _) ⟨wr.heap.size, 0, none⟩ 1 1 [.string (rdOf ByteArray.empty acc K)] rfl rfl (cell_one_new _ _ _) (strs_oneCell [rdOf ByteArray.empty acc K]) hfit ?_; intro w3 hown3 hgrow3)
            have s3 := hgrow3.size
            simp at s3
            go_roundw
            case rel =>
              refine ⟨K - 1, rfl, by omega, by omega, by rw [Hkl.out], ?_, (hBx.alloc hBx.size _).grown hgrow3 (by have := hBx.size; simp; omega) (fun j hj => by cases hj; exact Nat.le_refl _)⟩
              refine Lib.hid ?_
              rw [← Hkl.out, Hkd.out, List.map_append]
              first | exact hown3 | simpa using hown3
            case measure => simp [intOf]; omega
          · have hrow := HX.out
            rw [show (K + 1).toNat = 0 by omega, List.drop_zero, Nat.sub_zero] at hrow
            have HX2 := Lib.hid hrow
            clear hrow
            rw [show (K + 1).toNat = 0 by omega, Nat.sub_zero]
            go_wp2
            go_ret
            refine ⟨_, rfl, ?_, hB.trans (hBx.mono hB.size)⟩
            unfold lastOnes
            rw [← HE.out]
            refine Kd.R_of_own ?_ (fun _ _ => trivial)
            have h9 := own_weaken HX2.out hB.size
            rw [List.length_reverse]
            exact h9
end Go.Proofs.YtlldpjcnkckclaaDoor.Hand
