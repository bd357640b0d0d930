/- Contracts, proved by hand, of small functions that the printer does not serve: strings.IndexByte, strings.Count, missiveref01.Lower. -/
import Derived.Test.YtlldpjcnkckclaaDoorProg
import Derived.Test.YtlldpjcnkckclaaDoorShelf
import Derived.Test.YtlldpjcnkckclaaDoorWWords
import Derived.WalkKit
import Derived.LoopTactic
import Derived.Lib.ConvBytes
import Derived.Laws.BytesArg
import Derived.Laws.IdiomStrings
import Derived.Lib.Hide
namespace Go.Proofs.YtlldpjcnkckclaaDoor.Hand
open Go.RowKit Go.Proofs.YtlldpjcnkckclaaDoorW.PrintWords
set_option linter.unusedVariables false
set_option linter.unusedSimpArgs false

theorem drawn_same {w w' : World} (h : w' = w) : Drawn0 w w' := by subst h; exact Drawn0.refl _

def indexByte (a0 : ByteArray) (a1 : Int) : Option Int := some (Lib.indexByte a0.data.toList a1.toNat.toUInt8)
theorem indexByte_calls (a0 : ByteArray) (a1 : Int) (r : Int) (w : World) (h : indexByte a0 a1 = some r) :
    Calls Tryd.prog 26 #[.string a0, .int .u8 a1] w fun e w' => e = .returned (.int .i64 r) ∧ Drawn0 w w' := by
  obtain rfl := Option.some.inj h
  exact (Tryd.strings_IndexByte a0 a1 w).mono fun _ _ ⟨he, hw⟩ => ⟨he, drawn_same hw⟩

/-- strings.Count where what is counted is one byte. -/
def count (a0 a1 : ByteArray) : Option Int := match a1.data.toList with
  | [c] => some (Lib.countByte a0.data.toList c)
  | _ => none
theorem count_calls (a0 a1 : ByteArray) (r : Int) (w : World) (h : count a0 a1 = some r) :
    Calls Tryd.prog 27 #[.string a0, .string a1] w fun e w' => e = .returned (.int .i64 r) ∧ Drawn0 w w' := by
  unfold count at h
  split at h
  · rename_i c hc
    obtain rfl := Option.some.inj h
    have e1 : a1 = ⟨#[c]⟩ := by
      cases a1 with
      | mk d => simp only at hc; congr 1; rw [← Array.toList_inj, hc]
    subst e1
    exact (Tryd.strings_Count_one a0 c w).mono fun _ _ ⟨he, hw⟩ => ⟨he, drawn_same hw⟩
  · cases h

/-! ### missiveref01.Lower -/
def lowI (c : Int) : Int := if 65 ≤ c ∧ c ≤ 90 then c + 32 else c
theorem lower_any (c : Int) (w : World) (h0 : 0 ≤ c) (h1 : c ≤ 255) : Calls Tryd.prog 47 #[.int .u8 c] w fun e w' => e = .returned (.int .u8 (lowI c)) ∧ w = w' := by
  by_cases ha : 65 ≤ c
  · by_cases hb : c ≤ 90
    · have e : lowI c = c + 32 := if_pos ⟨ha, hb⟩
      have H := Lib.hid e
      clear e
      go_enter Tryd.func47, Tryd.ntmps47
      go_wp2
      go_ret
      exact ⟨by rw [H.out]; rfl, rfl⟩
    · have e : lowI c = c := if_neg (by omega)
      have H := Lib.hid e
      clear e
      go_enter Tryd.func47, Tryd.ntmps47
      go_wp2
      go_ret
      exact ⟨by rw [H.out]; rfl, rfl⟩
  · have e : lowI c = c := if_neg (by omega)
    have H := Lib.hid e
    clear e
    go_enter Tryd.func47, Tryd.ntmps47
    go_wp2
    go_ret
    exact ⟨by rw [H.out]; rfl, rfl⟩

def lowNums (s : ByteArray) : List Int := s.data.toList.map fun b => lowI (b.toNat : Int)
def val (s : ByteArray) (k j : Nat) : Int := if j < k then lowI (bt s j) else bt s j
/-- What holds at the head of round k: the row's cells, the bytes in front of k turned. -/
def St (s : ByteArray) (w : World) (k : Nat) (wr : World) : Prop :=
  Below w.heap.size w wr ∧ w.heap.size < wr.heap.size ∧ ∀ j, j < s.size → wr.cell? ⟨w.heap.size, j, none⟩ = some (.int .u8 (val s k j)) ∧ wr.frozen? ⟨w.heap.size, j, none⟩ = false

theorem bt_getD (s : ByteArray) (j : Nat) (hj : j < s.size) : ((s.data.toList.getD j 0).toNat : Int) = bt s j := by
  have hj' : j < s.data.size := hj
  simp [bt, hj, List.getD, Array.getElem?_eq_getElem hj']
  rfl

theorem St_start (s : ByteArray) (w : World) : St s w 0 (Lib.bytesWorld w 5 s) := by
  refine ⟨⟨rfl, rfl, rfl, by rw [Lib.bytesWorld_size]; omega, fun k hk => Lib.bytesWorld_at_old w 5 s k hk⟩, by rw [Lib.bytesWorld_size]; omega, fun j hj => ⟨?_, ?_⟩⟩
  · rw [Lib.bytesWorld_cell w 5 s j hj]
    unfold val
    rw [if_neg (by omega), ← bt_getD s j hj]
  · simp only [World.frozen?, Lib.bytesWorld_at_new]
    have : s.size ≤ (Lib.bytesCells w 5 s).size := by simp [Lib.bytesCells]
    simp
    omega

theorem St_step {s : ByteArray} {w wr : World} {k : Nat} (h : St s w k wr) (hk : k < s.size) :
    St s w (k + 1) (wr.setCell ⟨w.heap.size, k, none⟩ (.int .u8 (lowI (bt s k)))) := by
  obtain ⟨h1, h2, h3⟩ := h
  refine ⟨h1.setCell (Nat.le_refl _) _, by simpa [World.setCell] using h2, fun j hj => ⟨?_, ?_⟩⟩
  · by_cases e : j = k
    · subst e
      rw [World.cell?_setCell_same _ _ _ (h3 j hj).1]
      simp [val]
    · rw [World.cell?_setCell_other _ _ _ _ (by simp [e]), (h3 j hj).1]
      unfold val
      by_cases hlt : j < k
      · rw [if_pos hlt, if_pos (by omega)]
      · rw [if_neg hlt, if_neg (by omega)]
  · rw [World.frozen?_setCell]
    exact (h3 j hj).2

theorem St_end {s : ByteArray} {w wr : World} (h : St s w s.size wr) : ∀ i, i < s.size → wr.cell? ⟨w.heap.size, 0 + i, none⟩ = some (.int .u8 ((lowNums s).getD i 0)) := by
  intro i hi
  rw [Nat.zero_add, (h.2.2 i hi).1]
  have hi' : i < s.data.size := hi
  simp only [val, if_pos hi]
  congr 2
  simp [lowNums, List.getD, Array.getElem?_eq_getElem hi', bt, hi]
  rfl

def lowerF (a0 : ByteArray) : Option ByteArray := if a0.size ≤ 140737488355328 then some (strOfNums (lowNums a0)) else none
theorem lowNums_length (s : ByteArray) : (lowNums s).length = s.size := by simp [lowNums]

set_option maxHeartbeats 1000000 in
theorem lowerF_calls (a0 r : ByteArray) (w : World) (h : lowerF a0 = some r) :
    Calls Tryd.prog 44 #[.string a0] w fun e w' => e = .returned (.string r) ∧ Below w.heap.size w w' := by
  unfold lowerF at h
  split at h
  case isFalse => cases h
  rename_i hs
  obtain rfl := Option.some.inj h
  clear h
  have hcv := fun W => Lib.run_convert_string_bytes (P := Tryd.prog) W 9 55 5 a0 Tryd.underlying9 Tryd.underlying55 Tryd.underlying5
  have hst := Lib.hid (St_start a0 w)
  go_enter Tryd.func44, Tryd.ntmps44
  go_wp2
  go_loopw [4] (fun i wr => ∃ k : Nat, k ≤ a0.size ∧ i = .int .i64 k ∧ Hid (St a0 w k wr)) (fun i _ => a0.size - (intOf i).toNat)
  case atStart => exact ⟨0, Nat.zero_le _, rfl, hst⟩
  case round =>
    obtain ⟨k, hk, rfl, hS⟩ := hrel
    by_cases hlt : k < a0.size
    · have hc := (hS.out.2.2 k hlt).1
      have hf := (hS.out.2.2 k hlt).2
      have hv : val a0 k k = bt a0 k := by simp [val]
      rw [hv] at hc
      clear hv
      have hb := bt_range a0 k
      go_wp2_with (go_at_call 47; refine (lower_any _ _ hb.1 hb.2).mono ?_; rintro e w' ⟨rfl, rfl⟩)
      go_roundw
      case rel => exact ⟨k + 1, by omega, by go_num, St_step hS.out hlt⟩
      case measure => simp [intOf]; omega
    · obtain rfl : k = a0.size := by omega
      have hend := Lib.hid (St_end hS.out)
      have hB := hS.out.1
      have hl := Lib.hid (lowNums_length a0)
      have hcb := Lib.hid (run_convert_bytes_arg (P := Tryd.prog) wr 55 5 Tryd.underlying55 Tryd.underlying5 w.heap.size 0 a0.size (grownCap w a0.size 0 5) (lowNums a0) hl.out hend.out 9 Tryd.underlying9)
      have hcb' := hcb.out
      go_wp2
      go_ret
      exact ⟨rfl, hB⟩
end Go.Proofs.YtlldpjcnkckclaaDoor.Hand
