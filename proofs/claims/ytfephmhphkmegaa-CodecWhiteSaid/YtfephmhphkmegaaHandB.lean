/- codec.group: the four characters for 1 to 3 bytes. -/
import Derived.Test.YtfephmhphkmegaaHandA
import Derived.Test.YtfephmhphkmegaaPlainB
import Derived.Lib.SlBytesConst
import Derived.Lib.SmallJoins
import Derived.Outline
namespace Go.Proofs.Ytfephmhphkmegaa.Hd
open Go.RowKit Go.Proofs.YtfephmhphkmegaaW.PrintWords Go.Proofs.YtfephmhphkmegaaW.PrintLast Go.Proofs.YtfephmhphkmegaaW.PrintMore
set_option linter.unusedVariables false
set_option linter.unusedSimpArgs false

theorem wraps_i64 (n : Int) (h₀ : 0 ≤ n) (h₁ : n < 2 ^ 62) : IntKind.i64.wrap n = n := by rw [IntKind.wrap_i64]; omega
def byt (s : ByteArray) (i : Nat) : Nat := if h : i < s.size then s[i].toNat else 0
theorem byt_lt (s : ByteArray) (i : Nat) : byt s i < 256 := by
  unfold byt
  split
  · exact UInt8.toNat_lt _
  · omega
def nOf (s : ByteArray) : Nat → Nat
  | 0 => 0
  | k + 1 => nOf s k * 256 + byt s k
theorem nOf_lt (s : ByteArray) : nOf s 0 = 0 ∧ nOf s 1 < 256 ∧ nOf s 2 < 65536 ∧ nOf s 3 < 16777216 := by
  have h0 := byt_lt s 0
  have h1 := byt_lt s 1
  have h2 := byt_lt s 2
  simp only [nOf]
  refine ⟨trivial, ?_, ?_, ?_⟩ <;> omega
theorem nOf_small (s : ByteArray) (k : Nat) (h : k < 3) : nOf s k < 65536 := by
  obtain ⟨h0, h1, h2, _⟩ := nOf_lt s
  have : k = 0 ∨ k = 1 ∨ k = 2 := by omega
  rcases this with rfl | rfl | rfl <;> omega
theorem or_step (n b : Nat) (hn : n < 65536) (hb : b < 256) : bits .or .i64 (wrap64 ((n : Int) * 256)) (wrap64 (b : Int)) = ((n * 256 + b : Nat) : Int) := by
  rw [show wrap64 ((n : Int) * 256) = (n : Int) * 256 by unfold wrap64; omega, show wrap64 (b : Int) = (b : Int) by unfold wrap64; omega,
    bits_join .i64 62 (by decide) wraps_i64 8 _ _ (by omega) (by omega) (by omega) (by omega) (by omega) (by omega)]
  omega
theorem sh_step (n : Nat) (hn : n < 65536) : wrap64 ((n : Int) * 256) = ((n * 256 : Nat) : Int) := by
  rw [show wrap64 ((n : Int) * 256) = (n : Int) * 256 by unfold wrap64; omega]
  omega
theorem byt_at (s : ByteArray) (k : Nat) (h : k < s.size) : byt s k = s[k].toNat := by rw [byt, dif_pos h]
theorem byt_out (s : ByteArray) (k : Nat) (h : ¬ k < s.size) : byt s k = 0 := by rw [byt, dif_neg h]
theorem and63 (n : Nat) (hn : n < 16777216) : bits .and .i64 (n : Int) 63 = ((n % 64 : Nat) : Int) := by
  have := bits_mask .i64 62 (by decide) wraps_i64 6 (by decide) (n : Int) (by omega) (by omega)
  rw [show ((63 : Int)) = 2 ^ 6 - 1 from rfl, this]
  omega
theorem and63d (n q : Nat) (hn : n < 16777216) (hq : 0 < q) : bits .and .i64 ((n : Int) / (q : Int)) 63 = ((n / q % 64 : Nat) : Int) := by
  rw [← Int.natCast_ediv]
  exact and63 _ (Nat.lt_of_le_of_lt (Nat.div_le_self n q) hn)
theorem dig_at : ∀ d : Nat, ∀ h : d < 64, (#[65, 66, 67, 68, 69, 70, 71, 72, 73, 74, 75, 76, 77, 78, 79, 80, 81, 82, 83, 84, 85, 86, 87, 88, 89, 90, 97, 98, 99, 100, 101, 102, 103, 104, 105, 106, 107, 108, 109, 110, 111, 112, 113, 114, 115, 116, 117, 118, 119, 120, 121, 122, 48, 49, 50, 51, 52, 53, 54, 55, 56, 57, 43, 47] : Array UInt8)[d]'h = Pl.dig64 d := by decide
def chr (s : ByteArray) (k j : Nat) : UInt8 := if j < k then Pl.dig64 (nOf s 3 / 64 ^ (3 - j) % 64) else 61
def row (s : ByteArray) (k : Nat) : Array Value := #[.int .u8 (chr s k 0).toNat, .int .u8 (chr s k 1).toNat, .int .u8 (chr s k 2).toNat, .int .u8 (chr s k 3).toNat]
theorem row_set (s : ByteArray) (k : Nat) (hk : k < 4) (d : Nat) (hd : d = nOf s 3 / 64 ^ (3 - k) % 64) (v : UInt8) (hv : v = Pl.dig64 d) : (row s k).setIfInBounds k (.int .u8 (v.toNat : Int)) = row s (k + 1) := by
  subst hv
  subst hd
  obtain rfl | rfl | rfl | rfl : k = 0 ∨ k = 1 ∨ k = 2 ∨ k = 3 := by omega
  all_goals simp [row, chr]
theorem list1 {l : List UInt8} (h : l.length = 1) : ∃ a, l = [a] := by
  match l, h with
  | [a], _ => exact ⟨a, rfl⟩
theorem list2 {l : List UInt8} (h : l.length = 2) : ∃ a b, l = [a, b] := by
  match l, h with
  | [a, b], _ => exact ⟨a, b, rfl⟩
theorem list3 {l : List UInt8} (h : l.length = 3) : ∃ a b c, l = [a, b, c] := by
  match l, h with
  | [a, b, c], _ => exact ⟨a, b, c, rfl⟩
theorem byt_get (s : ByteArray) (i : Nat) : byt s i = (s.data.toList.getD i 0).toNat := by
  unfold byt
  by_cases h : i < s.size
  · rw [dif_pos h]
    have h' : i < s.data.toList.length := by simpa using h
    rw [List.getD_eq_getElem?_getD, List.getElem?_eq_getElem h']
    rfl
  · rw [dif_neg h]
    have h' : s.data.toList.length ≤ i := by
      have : s.data.toList.length = s.size := by simp
      omega
    rw [List.getD_eq_getElem?_getD, List.getElem?_eq_none h']
    rfl
theorem grp_chr (s : ByteArray) (h1 : 1 ≤ s.size) (h3 : s.size ≤ 3) : [chr s (s.size + 1) 0, chr s (s.size + 1) 1, chr s (s.size + 1) 2, chr s (s.size + 1) 3] = Pl.grp s.data.toList := by
  have hl : s.data.toList.length = s.size := by simp
  have e : nOf s 3 = ((byt s 0) * 256 + byt s 1) * 256 + byt s 2 := by simp only [nOf]; omega
  have b0 := byt_get s 0
  have b1 := byt_get s 1
  have b2 := byt_get s 2
  obtain h | h | h : s.size = 1 ∨ s.size = 2 ∨ s.size = 3 := by omega
  · obtain ⟨a, ha⟩ := list1 (hl.trans h)
    rw [ha] at b0 b1 b2 ⊢
    simp at b0 b1 b2
    have := Pl.u8 a
    simp only [chr, h, e, b0, b1, b2]
    simp [Pl.grp, Pl.digs, Pl.pad, Pl.padn, List.replicate]
    refine ⟨congrArg _ ?_, congrArg _ ?_⟩ <;> omega
  · obtain ⟨a, b, ha⟩ := list2 (hl.trans h)
    rw [ha] at b0 b1 b2 ⊢
    simp at b0 b1 b2
    have := Pl.u8 a
    have := Pl.u8 b
    simp only [chr, h, e, b0, b1, b2]
    simp [Pl.grp, Pl.digs, Pl.pad, Pl.padn, List.replicate]
    refine ⟨congrArg _ ?_, congrArg _ ?_, congrArg _ ?_⟩ <;> omega
  · obtain ⟨a, b, c, ha⟩ := list3 (hl.trans h)
    rw [ha] at b0 b1 b2 ⊢
    simp at b0 b1 b2
    have := Pl.u8 a
    have := Pl.u8 b
    have := Pl.u8 c
    simp only [chr, h, e, b0, b1, b2]
    simp [Pl.grp, Pl.digs, Pl.enc3, Pl.pad, Pl.padn, List.replicate]
    refine ⟨congrArg _ ?_, congrArg _ ?_, congrArg _ ?_, congrArg _ ?_⟩ <;> omega
def digC : ByteArray := ⟨#[65, 66, 67, 68, 69, 70, 71, 72, 73, 74, 75, 76, 77, 78, 79, 80, 81, 82, 83, 84, 85, 86, 87, 88, 89, 90, 97, 98, 99, 100, 101, 102, 103, 104, 105, 106, 107, 108, 109, 110, 111, 112, 113, 114, 115, 116, 117, 118, 119, 120, 121, 122, 48, 49, 50, 51, 52, 53, 54, 55, 56, 57, 43, 47]⟩
set_option maxHeartbeats 1000000 in
set_option maxRecDepth 100000 in
theorem group_calls (s : ByteArray) (h1 : 1 ≤ s.size) (h3 : s.size ≤ 3) (w : World) :
    Calls Try.prog 21 #[.string s] w fun e w' => e = .returned (.string ⟨(Pl.grp s.data.toList).toArray⟩) ∧ Below w.heap.size w w' := by
  have hb := nOf_lt s
  have Hb := Aside0.mk hb
  clear hb
  have kc := fun (w : World) (C : Array Value) (n c : Nat) => Lib.run_convert_bytes_const (P := Try.prog) w 24 5 C n c Try.underlying24 Try.underlying5
  go_enter Try.func21, Try.ntmps21
  go_wp2
  go_loop [3, 7] (fun n i => ∃ k : Nat, k ≤ 3 ∧ i = .int .i64 k ∧ n = .int .i64 (nOf s k)) (fun _ i => 3 - (intOf i).toNat)
  case atStart => exact ⟨0, by omega, rfl, rfl⟩
  case round =>
    obtain ⟨k, hk, rfl, rfl⟩ := hrel
    by_cases hlt : k < 3
    · have hlt' : (k : Int) < 3 := by omega
      by_cases hs : k < s.size
      · have hs' : (k : Int) < (s.size : Int) := by omega
        go_wp2
        go_round
        case rel => exact ⟨k + 1, by omega, by go_num, by rw [or_step _ _ (nOf_small s k hlt) (UInt8.toNat_lt _), nOf, byt_at s k hs]⟩
        case measure => simp [intOf]; omega
      · have hs' : ¬ (k : Int) < (s.size : Int) := by omega
        go_wp2
        go_round
        case rel => exact ⟨k + 1, by omega, by go_num, by rw [sh_step _ (nOf_small s k hlt), nOf, byt_out s k hs]; rfl⟩
        case measure => simp [intOf]; omega
    · obtain rfl : k = 3 := by omega
      go_wp2
      go_loopw [28] (fun i wr => ∃ k : Nat, k ≤ s.size + 1 ∧ i = .int .i64 k ∧ Aside0 (wr.heap[w.heap.size]? = some (.cells (row s k) 5 (4, 5))) ∧ Aside0 (Below w.heap.size w wr)) (fun i _ => 5 - (intOf i).toNat)
      case atStart => exact ⟨0, by omega, rfl, ⟨heap_alloc_new w _⟩, ⟨(Below.refl _ _).alloc (Nat.le_refl _) _⟩⟩
      case round =>
        obtain ⟨k, hk, rfl, HR, HB⟩ := hrel
        by_cases hlt : k < s.size + 1
        · have hlt' : (k : Int) < (s.size : Int) + 1 := by omega
          have hN : nOf s 3 < 16777216 := Hb.out.2.2.2
          obtain ⟨N, hNe⟩ : ∃ N, N = nOf s 3 := ⟨_, rfl⟩
          rw [← hNe] at hN
          rw [← hNe]
          have HNe := Aside0.mk hNe
          clear hNe
          obtain rfl | rfl | rfl | rfl : k = 0 ∨ k = 1 ∨ k = 2 ∨ k = 3 := by omega
          · have e := and63d N 262144 hN (by omega)
            obtain ⟨d, hd⟩ : ∃ d : Nat, d = N / 262144 % 64 := ⟨_, rfl⟩
            rw [← hd] at e
            have E : bits .and .i64 ((N : Int) / 262144) 63 = (d : Int) := e
            have p1 : (0 : Int) ≤ (d : Int) := by omega
            have p2 : (d : Int) < 64 := by omega
            have Hd := Aside0.mk hd
            have hc : wr.cell? ⟨w.heap.size, 0, none⟩ = some (.int .u8 (chr s 0 0).toNat) := Joins.cell_of_block HR.out 0
            have hf : wr.frozen? ⟨w.heap.size, 0, none⟩ = false := by simp [World.frozen?, HR.out]
            clear e hd
            go_wp2
            go_roundw
            case rel => exact ⟨1, by omega, by go_num, ⟨(Joins.block_setCell HR.out _).trans (congrArg (fun r => some (Obj.cells r 5 (4, 5))) (row_set s 0 (by omega) d (by rw [Hd.out, HNe.out]) _ (dig_at d (by omega))))⟩, ⟨HB.out.setCell (p := ⟨w.heap.size, 0, none⟩) (Nat.le_refl _) _⟩⟩
            case measure => simp [intOf]
          · have e := and63d N 4096 hN (by omega)
            obtain ⟨d, hd⟩ : ∃ d : Nat, d = N / 4096 % 64 := ⟨_, rfl⟩
            rw [← hd] at e
            have E : bits .and .i64 ((N : Int) / 4096) 63 = (d : Int) := e
            have p1 : (0 : Int) ≤ (d : Int) := by omega
            have p2 : (d : Int) < 64 := by omega
            have Hd := Aside0.mk hd
            have hc : wr.cell? ⟨w.heap.size, 1, none⟩ = some (.int .u8 (chr s 1 1).toNat) := Joins.cell_of_block HR.out 1
            have hf : wr.frozen? ⟨w.heap.size, 1, none⟩ = false := by simp [World.frozen?, HR.out]
            clear e hd
            go_wp2
            go_roundw
            case rel => exact ⟨2, by omega, by go_num, ⟨(Joins.block_setCell HR.out _).trans (congrArg (fun r => some (Obj.cells r 5 (4, 5))) (row_set s 1 (by omega) d (by rw [Hd.out, HNe.out]) _ (dig_at d (by omega))))⟩, ⟨HB.out.setCell (p := ⟨w.heap.size, 1, none⟩) (Nat.le_refl _) _⟩⟩
            case measure => simp [intOf]
          · have e := and63d N 64 hN (by omega)
            obtain ⟨d, hd⟩ : ∃ d : Nat, d = N / 64 % 64 := ⟨_, rfl⟩
            rw [← hd] at e
            have E : bits .and .i64 ((N : Int) / 64) 63 = (d : Int) := e
            have p1 : (0 : Int) ≤ (d : Int) := by omega
            have p2 : (d : Int) < 64 := by omega
            have Hd := Aside0.mk hd
            have hc : wr.cell? ⟨w.heap.size, 2, none⟩ = some (.int .u8 (chr s 2 2).toNat) := Joins.cell_of_block HR.out 2
            have hf : wr.frozen? ⟨w.heap.size, 2, none⟩ = false := by simp [World.frozen?, HR.out]
            clear e hd
            go_wp2
            go_roundw
            case rel => exact ⟨3, by omega, by go_num, ⟨(Joins.block_setCell HR.out _).trans (congrArg (fun r => some (Obj.cells r 5 (4, 5))) (row_set s 2 (by omega) d (by rw [Hd.out, HNe.out]) _ (dig_at d (by omega))))⟩, ⟨HB.out.setCell (p := ⟨w.heap.size, 2, none⟩) (Nat.le_refl _) _⟩⟩
            case measure => simp [intOf]
          · have e := and63d N 1 hN (by omega)
            obtain ⟨d, hd⟩ : ∃ d : Nat, d = N / 1 % 64 := ⟨_, rfl⟩
            rw [← hd] at e
            have E : bits .and .i64 ((N : Int) / 1) 63 = (d : Int) := e
            have E2 : bits .and .i64 (N : Int) 63 = (d : Int) := by rw [← E, Int.ediv_one]
            have p1 : (0 : Int) ≤ (d : Int) := by omega
            have p2 : (d : Int) < 64 := by omega
            have Hd := Aside0.mk hd
            have hc : wr.cell? ⟨w.heap.size, 3, none⟩ = some (.int .u8 (chr s 3 3).toNat) := Joins.cell_of_block HR.out 3
            have hf : wr.frozen? ⟨w.heap.size, 3, none⟩ = false := by simp [World.frozen?, HR.out]
            clear e hd
            go_wp2
            go_roundw
            case rel => exact ⟨4, by omega, by go_num, ⟨(Joins.block_setCell HR.out _).trans (congrArg (fun r => some (Obj.cells r 5 (4, 5))) (row_set s 3 (by omega) d (by rw [Hd.out, HNe.out]) _ (dig_at d (by omega))))⟩, ⟨HB.out.setCell (p := ⟨w.heap.size, 3, none⟩) (Nat.le_refl _) _⟩⟩
            case measure => simp [intOf]
        · obtain rfl : k = s.size + 1 := by omega
          have hlt' : ¬ (s.size : Int) + 1 < (s.size : Int) + 1 := by omega
          have hcv := run_convert_bytes_arg (P := Try.prog) wr 24 5 Try.underlying24 Try.underlying5 w.heap.size 0 4 4 [((chr s (s.size + 1) 0).toNat : Int), (chr s (s.size + 1) 1).toNat, (chr s (s.size + 1) 2).toNat, (chr s (s.size + 1) 3).toNat] rfl (by
            intro i hi
            rw [Joins.cell_of_block HR.out]
            obtain rfl | rfl | rfl | rfl : i = 0 ∨ i = 1 ∨ i = 2 ∨ i = 3 := by omega
            all_goals rfl) 9 Try.underlying9
          go_wp2
          go_ret
          refine ⟨?_, HB.out⟩
          rw [← grp_chr s h1 h3]
          simp [strOfNums]
end Go.Proofs.Ytfephmhphkmegaa.Hd
