/- text.Lower, and the tables of digits' values: maps that the call makes. -/
import Derived.Test.YtfephmhphkmegaaHandB
import Derived.Maps.OwnSet
import Derived.Maps.OwnOps
import Derived.Deep.OwnRows
import Derived.Lib.Hide
import Derived.Lib.OthersKept
namespace Go.Proofs.Ytfephmhphkmegaa.Hd
open Go.RowKit Go.Maps Go.Proofs.YtfephmhphkmegaaW.PrintWords Go.Proofs.YtfephmhphkmegaaW.PrintLast Go.Proofs.YtfephmhphkmegaaW.PrintMore
set_option linter.unusedVariables false
set_option linter.unusedSimpArgs false

/-! ### text.lower, text.mapped, text.Lower -/
def lowI (c : Int) : Int := if 65 ≤ c ∧ c ≤ 90 then c + 32 else c
theorem lower_any (c : Int) (w : World) (h0 : 0 ≤ c) (h1 : c ≤ 255) : Calls Try.prog 53 #[.int .u8 c] w fun e w' => e = .returned (.int .u8 (lowI c)) ∧ w = w' := by
  by_cases ha : 65 ≤ c
  · by_cases hb : c ≤ 90
    · have e : lowI c = c + 32 := if_pos ⟨ha, hb⟩
      have H := Lib.hid e
      clear e
      go_enter Try.func53, Try.ntmps53
      go_wp2
      go_ret
      exact ⟨by rw [H.out]; rfl, rfl⟩
    · have e : lowI c = c := if_neg (by omega)
      have H := Lib.hid e
      clear e
      go_enter Try.func53, Try.ntmps53
      go_wp2
      go_ret
      exact ⟨by rw [H.out]; rfl, rfl⟩
  · have e : lowI c = c := if_neg (by omega)
    have H := Lib.hid e
    clear e
    go_enter Try.func53, Try.ntmps53
    go_wp2
    go_ret
    exact ⟨by rw [H.out]; rfl, rfl⟩
def lowV (s : ByteArray) (k : Nat) : Nat → Value := fun j => .int .u8 (if j < k then lowI (bt s j) else 0)
def lowNums (s : ByteArray) : List Int := s.data.toList.map fun b => lowI (b.toNat : Int)
theorem lowNums_length (s : ByteArray) : (lowNums s).length = s.size := by simp [lowNums]
theorem Try.info5 : (Try.prog.info? 5).map (fun i => (i.zero, i.size, i.bytes)) = some (some (.int .u8 0), 1, 1) := by kernel_rfl
set_option maxHeartbeats 1000000 in
theorem mapped_calls (s : ByteArray) (hs : s.size ≤ 1000000) (w : World) :
    Calls Try.prog 52 #[.string s, .func (.func 53) #[] #[]] w fun e w' => e = .returned (.string (strOfNums (lowNums s))) ∧ Below w.heap.size w w' := by
  obtain ⟨i0, hi, hz0, hz1, hz2⟩ := info_parts Try.info5
  have hmk := run_make (P := Try.prog) w 24 5 i0 (.int .u8 0) Try.underlying24 hi hz0 .i64 .i64 s.size s.size (by omega) (by omega) (by rw [hz2]; omega) (by omega)
  rw [hz1, Int.toNat_natCast, Nat.mul_one] at hmk
  go_enter Try.func52, Try.ntmps52
  go_wp2
  go_loopw [12] (fun i wr => ∃ k : Nat, k ≤ s.size ∧ i = .int .i64 k ∧ Hid (wr.rowIs w.heap.size 5 s.size (lowV s k)) ∧ Hid (Below w.heap.size w wr)) (fun i _ => s.size - (intOf i).toNat)
  case atStart => exact ⟨0, Nat.zero_le _, rfl, Lib.hid (World.rowIs_made w (.int .u8 0) s.size 5), Lib.hid ((Below.refl _ _).alloc (Nat.le_refl _) _)⟩
  case round =>
    obtain ⟨k, hk, rfl, HR, HB⟩ := hrel
    by_cases hlt : k < s.size
    · have hc := HR.out.cell hlt
      have hf := HR.out.frozen k
      have hb : (0 : Int) ≤ (s[k].toNat : Int) ∧ (s[k].toNat : Int) ≤ 255 := by have := s[k].toNat_lt; omega
      have hbt := Lib.hid (show (s[k].toNat : Int) = bt s k by simp [bt, hlt])
      go_wp2_with (go_at_call 53; refine (lower_any _ _ hb.1 hb.2).mono ?_; rintro e w' ⟨rfl, rfl⟩)
      go_roundw
      case rel =>
        refine ⟨k + 1, by omega, by go_num, Lib.hid ((HR.out.set k (.int .u8 (lowI (s[k].toNat : Int)))).congr fun j hj => ?_), Lib.hid (HB.out.setCell (p := ⟨w.heap.size, k, none⟩) (Nat.le_refl _) _)⟩
        by_cases e : j = k
        · subst e
          simp [lowV, hbt.out]
        · simp only [if_neg e, lowV]
          by_cases e2 : j < k
          · rw [if_pos e2, if_pos (by omega)]
          · rw [if_neg e2, if_neg (by omega)]
      case measure => simp [intOf]; omega
    · obtain rfl : k = s.size := by omega
      have hend : ∀ i, i < s.size → wr.cell? ⟨w.heap.size, 0 + i, none⟩ = some (.int .u8 ((lowNums s).getD i 0)) := by
        intro i hi
        rw [Nat.zero_add, HR.out.cell hi]
        have hi' : i < s.data.size := hi
        simp only [lowV, if_pos hi]
        congr 2
        simp [lowNums, List.getD, Array.getElem?_eq_getElem hi', bt, hi]
        rfl
      have Hend := Lib.hid hend
      clear hend
      have hl := Lib.hid (lowNums_length s)
      have hcb := Lib.hid (run_convert_bytes_arg (P := Try.prog) wr 24 5 Try.underlying24 Try.underlying5 w.heap.size 0 s.size s.size (lowNums s) hl.out Hend.out 9 Try.underlying9)
      have hcb' := hcb.out
      go_wp2
      go_ret
      exact ⟨rfl, HB.out⟩
theorem Lower_calls (s : ByteArray) (hs : s.size ≤ 1000000) (w : World) :
    Calls Try.prog 43 #[.string s] w fun e w' => e = .returned (.string (strOfNums (lowNums s))) ∧ Below w.heap.size w w' := by
  go_enter Try.func43, Try.ntmps43
  go_wp2_with (go_at_call 52; refine (mapped_calls s hs _).mono ?_; rintro e w1 ⟨rfl, hb⟩)
  go_ret
  exact ⟨rfl, hb⟩

/-! ### tables of digits -/
def IsTab (w : World) (b n : Nat) (f : UInt8 → Option Nat) : Prop :=
  ∃ D : DataW Unit, w.ownsMap Try.prog 5 (plainElem Try.prog 3) b n D ∧ Maps.IsMap D ∧
    ∀ c : UInt8, Maps.has D (.int .u8 (c.toNat : Int)) = (f c).isSome ∧ D.atKey (.int .u8 (c.toNat : Int)) (.lit (.int .i64 0)) = .lit (.int .i64 (((f c).getD 0 : Nat) : Int))
theorem law5 : Maps.Keyed Try.prog 5 := Maps.int_keyed Try.underlying5
theorem zero3 (w : World) : (zeroValue 3).run Try.prog w = .ok (.int .i64 0) w := by kernel_rfl
theorem wf_u8 (c : UInt8) : (Lit.int .u8 (c.toNat : Int)).wf = true := by
  have h : ∀ n : Fin 256, (Lit.int .u8 (n.val : Int)).wf = true := by decide +kernel
  exact h ⟨c.toNat, c.toNat_lt⟩
theorem wf_i64 (n : Nat) (h : n < 9223372036854775808) : (Lit.int .i64 (n : Int)).wf = true := by
  have e : wrap64 (n : Int) = (n : Int) := by unfold wrap64; omega
  rw [← e]
  exact wrap64_wf _
theorem key_u8 (c : UInt8) : keyOf Try.prog 5 (.int .u8 (c.toNat : Int)) = some (.int .u8 (c.toNat : Int)) := Maps.keyOf_int_mk Try.underlying5 (wf_u8 c)
theorem IsTab.start (w : World) : IsTab (w.alloc (.map #[] 0)) w.heap.size 0 (fun _ => none) :=
  ⟨.map [], World.ownsMap_made _ _ _ _, Maps.isMap_empty, fun c => ⟨rfl, rfl⟩⟩
theorem IsTab.put {D : DataW Unit} {w1 : World} {b n' : Nat} {f : UInt8 → Option Nat} (hM : Maps.IsMap D)
    (hf : ∀ c : UInt8, Maps.has D (.int .u8 (c.toNat : Int)) = (f c).isSome ∧ D.atKey (.int .u8 (c.toNat : Int)) (.lit (.int .i64 0)) = .lit (.int .i64 (((f c).getD 0 : Nat) : Int)))
    (k : UInt8) (v : Nat) (h : w1.ownsMap Try.prog 5 (plainElem Try.prog 3) b n' (D.put (.int .u8 (k.toNat : Int)) (.lit (.int .i64 (v : Int))))) :
    IsTab w1 b n' (fun c => if c = k then some v else f c) := by
  refine ⟨_, h, hM.put _ _, fun c => ?_⟩
  by_cases e : c = k
  · subst e
    simp only [if_true]
    exact ⟨Maps.has_put_same hM (by first | trivial | simp [WideAt.IsKeyLit]) _, Maps.atKey_put_same hM (by first | trivial | simp [WideAt.IsKeyLit]) _ _⟩
  · simp only [if_neg e]
    have hne : (Lit.int .u8 (c.toNat : Int)) ≠ .int .u8 (k.toNat : Int) := by
      intro h2
      simp only [Lit.int.injEq, true_and] at h2
      exact e (UInt8.toNat_inj.1 (by omega))
    rw [Maps.has_put_other hne, Maps.atKey_put_other hne]
    exact hf c
def fOf (l : List UInt8) : Nat → UInt8 → Option Nat
  | 0 => fun _ => none
  | k + 1 => fun c => if c = l.getD k 0 then some k else fOf l k c
set_option maxHeartbeats 1000000 in
theorem valuesOf_calls (s : ByteArray) (hs : s.size ≤ 1000000) (w : World) :
    Calls Try.prog 24 #[.string s] w fun e w' => e = .returned (.map (some w.heap.size)) ∧ IsTab w' w.heap.size s.size (fOf s.data.toList s.size) ∧ Below w.heap.size w w' := by
  have hmm : ∀ (n : Int) (w : World), (Instr.makeMap 44 (some (.int .i64 n))).run Try.prog w = .ok (.map (some w.heap.size)) (w.alloc (.map #[] 0)) := by
    intro n w
    simp [Instr.makeMap, run_underlying Try.underlying44, asInt]
    rfl
  go_enter Try.func24, Try.ntmps24
  go_wp2
  go_loopw [10] (fun i wr => ∃ k : Nat, k ≤ s.size ∧ i = .int .i64 k ∧ Hid (IsTab wr w.heap.size k (fOf s.data.toList k)) ∧ Hid (Below w.heap.size w wr)) (fun i _ => s.size - (intOf i).toNat)
  case atStart => exact ⟨0, Nat.zero_le _, rfl, Lib.hid (IsTab.start w), Lib.hid ((Below.refl _ _).alloc (Nat.le_refl _) _)⟩
  case round =>
    obtain ⟨k, hk, rfl, HT, HB⟩ := hrel
    by_cases hlt : k < s.size
    · obtain ⟨D, hown, hM, hf⟩ := HT.out
      have Hown := Lib.hid hown
      have Hf := Lib.hid hf
      clear hown hf
      have hlt' : (k : Int) < (s.size : Int) := by omega
      have hkey := key_u8 s[k]
      have hgd : s.data.toList.getD k 0 = s[k] := by
        have hi' : k < s.data.size := hlt
        simp [List.getD, Array.getElem?_eq_getElem hi']
        rfl
      have Hgd := Lib.hid hgd
      clear hgd
      go_wp2_with (at_mapUpdate; refine wpList_mapUpdate_own _ rfl _ _ _ 44 rfl 5 3 law5 Try.underlying44 _ w.heap.size k _ rfl Hown.out (by unfold maxLen; omega) _ _ _ rfl rfl hkey _ [] (plainElem_int Try.underlying3 (wf_i64 k (by omega))) ?_; intro w1 hown1 hgrow1)
      have Hown1 := Lib.hid hown1
      clear hown1
      go_roundw
      case rel =>
        refine ⟨k + 1, by omega, by go_num, Lib.hid ?_, Lib.hid (HB.out.grown hgrow1 HB.out.size (fun j hj => by cases hj; exact Nat.le_refl _))⟩
        have := IsTab.put hM Hf.out s[k] k Hown1.out
        rw [fOf, Hgd.out]
        exact this
      case measure => simp [intOf]; omega
    · obtain rfl : k = s.size := by omega
      go_wp2
      go_ret
      exact ⟨rfl, HT.out, HB.out⟩

theorem IsTab.of_block {w w' : World} {b n : Nat} {f : UInt8 → Option Nat} (h : IsTab w b n f) (e : w'.heap[b]? = w.heap[b]?) : IsTab w' b n f := by
  obtain ⟨D, ⟨es, clock, hb, F, h1, h2⟩, hM, hf⟩ := h
  exact ⟨D, ⟨es, clock, e.trans hb, F, h1, h2⟩, hM, hf⟩
theorem IsTab.lt {w : World} {b n : Nat} {f : UInt8 → Option Nat} (h : IsTab w b n f) : b < w.heap.size := by
  obtain ⟨D, h, _⟩ := h
  exact h.lt
theorem IsTab.below {w w' : World} {b n B : Nat} {f : UInt8 → Option Nat} (h : IsTab w b n f) (hB : Below B w w') (hb : b < B) : IsTab w' b n f := h.of_block (hB.block b hb)
def hexC : ByteArray := ⟨#[48, 49, 50, 51, 52, 53, 54, 55, 56, 57, 65, 66, 67, 68, 69, 70]⟩
def hexL : ByteArray := ⟨#[48, 49, 50, 51, 52, 53, 54, 55, 56, 57, 97, 98, 99, 100, 101, 102]⟩
theorem hex_low : strOfNums (lowNums hexC) = hexL := by decide
def gOf : Nat → UInt8 → Option Nat
  | 0 => fOf hexC.data.toList 16
  | k + 1 => fun c => if c = hexL.data.toList.getD k 0 then some k else gOf k c
theorem gOf_hexv (c : UInt8) : gOf 16 c = Pl.hexv c := by
  have h : ∀ n : Fin 256, gOf 16 (UInt8.ofNat n.val) = Pl.hexv (UInt8.ofNat n.val) := by decide +kernel
  have := h ⟨c.toNat, c.toNat_lt⟩
  simpa using this
theorem fOf_val (c : UInt8) : fOf digC.data.toList 64 c = Pl.val64 c := by
  have h : ∀ n : Fin 256, fOf digC.data.toList 64 (UInt8.ofNat n.val) = Pl.val64 (UInt8.ofNat n.val) := by decide +kernel
  have := h ⟨c.toNat, c.toNat_lt⟩
  simpa using this
theorem hexL_ascii : ∀ k : Nat, ∀ h : k < 16, ((hexL.data[k]'h).toNat < 128) := by decide
set_option maxHeartbeats 1000000 in
theorem hexValues_calls (w : World) : Calls Try.prog 29 #[] w fun e w' => e = .returned (.map (some w.heap.size)) ∧ IsTab w' w.heap.size 32 Pl.hexv ∧ Below w.heap.size w w' := by
  go_enter Try.func29, Try.ntmps29
  go_wp2_with (first
    | (go_at_call 24; refine (valuesOf_calls hexC (by decide) _).mono ?_; rintro e w1 ⟨rfl, hT1, hB1⟩; have HT1 := Lib.hid hT1; clear hT1)
    | (go_at_call 43; refine (Lower_calls hexC (by decide) _).mono ?_; rintro e w2 ⟨rfl, hB2⟩; rw [hex_low]))
  have hsz : w.heap.size < w1.heap.size := HT1.out.lt
  have hB12 : Below w.heap.size w w2 := hB1.trans (hB2.mono hB1.size)
  have HT2 := Lib.hid (HT1.out.below hB2 hsz)
  have hsz2 : w.heap.size < w2.heap.size := HT2.out.lt
  clear hB2 HT1
  go_loopw [] (fun wr => ∃ k : Nat, k ≤ 16 ∧ Hid (wr.heap[w2.heap.size]? = some (.stringIter hexL k)) ∧ Hid (IsTab wr w.heap.size (16 + k) (gOf k)) ∧ Hid (Below w.heap.size w wr)) (fun wr => 16 - wr.iterPos w2.heap.size)
  case atStart =>
    refine ⟨0, by omega, Lib.hid (World.iter_heap w2 hexL 0), Lib.hid (HT2.out.of_block ?_), Lib.hid (hB12.alloc hB12.size _)⟩
    show (w2.heap.push _)[w.heap.size]? = _
    rw [Array.getElem?_push_lt hsz2, Array.getElem?_eq_getElem hsz2]
  case round =>
    obtain ⟨k, hk, Hit, HT, HB⟩ := hrel
    have hit := Hit.out
    by_cases hlt : k < 16
    · have hp : k < hexL.size := hlt
      have hnx : ∀ ty, (Instr.next (.pointer (some ⟨w2.heap.size, 0, none⟩)) true ty).run Try.prog wr = _ := fun ty => Lib.run_next_ascii_at wr w2.heap.size hexL k ty hit hp (hexL_ascii k hlt)
      have Hit2 := Lib.hid (Lib.iterAt_heap wr w2.heap.size hexL k (k + 1) hit)
      have HB2 := Lib.hid (Lib.below_iterAt HB.out (k := w2.heap.size) (by omega) hexL (k + 1))
      have HT2 := Lib.hid (HT.out.of_block (Lib.iterAt_other wr w2.heap.size w.heap.size hexL (k + 1) (by omega)))
      have hit' := Lib.hid hit
      clear hit
      obtain ⟨D, hown, hM, hf⟩ := HT2.out
      have Hown := Lib.hid hown
      have Hf := Lib.hid hf
      clear hown hf
      have hkey := key_u8 (hexL[k]'hp)
      have hgd := Lib.hid (show hexL.data.toList.getD k 0 = hexL[k]'hp by
        simp [List.getD, Array.getElem?_eq_getElem (show k < hexL.data.size from hp)]
        rfl)
      have hwr : IntKind.u8.wrap ((hexL[k]'hp).toNat : Int) = ((hexL[k]'hp).toNat : Int) := wraps_u8 _ (by omega) (by have := (hexL[k]'hp).toNat_lt; omega)
      go_wp2_with (at_mapUpdate; refine wpList_mapUpdate_own _ rfl _ _ _ 44 rfl 5 3 law5 Try.underlying44 _ w.heap.size (16 + k) _ rfl Hown.out (by unfold maxLen; omega) _ _ _ rfl rfl hkey _ [] (plainElem_int Try.underlying3 (wf_i64 k (by omega))) ?_; intro w3 hown1 hgrow1)
      have Hown1 := Lib.hid hown1
      clear hown1
      have hg := hgrow1
      have hit3 : w3.heap[w2.heap.size]? = some (.stringIter hexL (k + 1)) :=
        (hgrow1.block w2.heap.size (Array.getElem?_eq_some_iff.1 Hit2.out).1 (by simp; omega)).trans Hit2.out
      refine ⟨⟨_, _, _, _, _, _, _, _, _, _, ⟨k + 1, by omega, Lib.hid hit3, Lib.hid ?_, Lib.hid (HB2.out.grown hgrow1 HB2.out.size (fun j hj => by cases hj; exact Nat.le_refl _))⟩, rfl⟩, ?_⟩
      · have := IsTab.put hM Hf.out (hexL[k]'hp) k Hown1.out
        rw [gOf, hgd.out]
        exact this
      · simp only [World.iterPos, hit3, hit'.out]
        omega
    · obtain rfl : k = 16 := by omega
      have hnx : ∀ ty, (Instr.next (.pointer (some ⟨w2.heap.size, 0, none⟩)) true ty).run Try.prog wr = _ := fun ty => Lib.run_next_end_at wr w2.heap.size hexL 16 ty hit (by decide)
      have hit' := Lib.hid hit
      clear hit
      go_wp2
      go_ret
      refine ⟨rfl, ?_, HB.out⟩
      have e : gOf 16 = Pl.hexv := funext gOf_hexv
      rw [← e]
      exact HT.out
end Go.Proofs.Ytfephmhphkmegaa.Hd
