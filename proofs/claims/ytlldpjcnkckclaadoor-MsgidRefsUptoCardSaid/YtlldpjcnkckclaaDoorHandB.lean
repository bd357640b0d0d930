/- A copy out of a string into an array, whatever the string's length: for msgid.beginning. -/
import Derived.Test.YtlldpjcnkckclaaDoorHandA
import Derived.Lib.BufferWrite
namespace Go.Proofs.YtlldpjcnkckclaaDoor.Hand
open Go.RowKit Go.Proofs.YtlldpjcnkckclaaDoorW.PrintWords
set_option linter.unusedVariables false
set_option linter.unusedSimpArgs false

/-- 'copy(dst, s)', s a string of any length, dst the whole of a block of bytes. -/
theorem run_copy_any_string {P : Program} (w : World) (dT sT ty elem : TypeId) (g dLen dCap : Nat) (s : ByteArray) (cur : Array Value) (t : TypeId)
    (hu : P.underlying dT = some (.slice elem)) (hs : (P.info? elem).map (·.size) = some 1) (hg : w.heap[g]? = some (.cells cur t (0, 0))) (hfit : dLen ≤ cur.size) :
    (Builtin.copy_ #[dT, sT] ty #[.slice (some ⟨g, 0, none⟩) dLen dCap, .string s]).run P w =
      .ok (goInt (Nat.min s.size dLen)) (w.setRow g ((Lib.byteCells s.data.toList).take dLen ++ cur.toList.drop (Nat.min s.size dLen)).toArray) := by
  have hlen : ((Lib.byteCells s.data.toList).take dLen).length = Nat.min s.size dLen := by
    rw [List.length_take, Lib.byteCells_length, ← Lib.size_eq]
    exact Nat.min_comm _ _
  have hm1 : Nat.min s.size dLen ≤ dLen := Nat.min_le_right _ _
  have hst := run_storeCells_at P g 0 t ((Lib.byteCells s.data.toList).take dLen) 0 cur w hg (by rw [hlen]; omega) (fun v hv => Lib.byteCells_one _ v (List.mem_of_mem_take hv))
  have htk : List.take (Nat.min s.size dLen) (List.map (fun b : UInt8 => Value.int IntKind.u8 (b.toNat : Int)) s.data.toList) = (Lib.byteCells s.data.toList).take dLen := by
    show (Lib.byteCells s.data.toList).take (Nat.min s.size dLen) = _
    rcases Nat.le_total s.size dLen with h | h
    · rw [show Nat.min s.size dLen = s.size from Nat.min_eq_left h, List.take_of_length_le (by rw [Lib.byteCells_length, ← Lib.size_eq]; exact Nat.le_refl _), List.take_of_length_le (by rw [Lib.byteCells_length, ← Lib.size_eq]; exact h)]
    · rw [show Nat.min s.size dLen = dLen from Nat.min_eq_right h]
  rw [hlen] at hst
  simp only [Nat.add_zero, Nat.zero_add, List.take_zero, List.nil_append] at hst
  cases hq : P.info? elem with
  | none => simp [hq] at hs
  | some i =>
    simp [Builtin.copy_, run_underlying hu, Builtin.lenOf, Builtin.firstCells, sizeOf, typeInfo, hq]
    rw [htk, hst]
    simp [Result.andThen]

/-- The first ten bytes of a string, zeros behind them. -/
def firstTen (s : ByteArray) : List Int := ((s.data.toList.map fun b => (b.toNat : Int)).take 10) ++ List.replicate (10 - Nat.min s.size 10) 0
theorem firstTen_length (s : ByteArray) : (firstTen s).length = 10 := by
  have h : s.data.toList.length = s.size := (Lib.size_eq s).symm
  simp only [firstTen, List.length_append, List.length_take, List.length_map, List.length_replicate, h]
  have : Nat.min s.size 10 = min s.size 10 := rfl
  omega

theorem copy_begin (s : ByteArray) (w : World) : ∃ n w2, (Builtin.copy_ #[55, 9] 3 #[.slice (some ⟨w.heap.size, 0, none⟩) 10 10, .string s]).run Tryd.prog
      (w.alloc (.cells #[.int .u8 0, .int .u8 0, .int .u8 0, .int .u8 0, .int .u8 0, .int .u8 0, .int .u8 0, .int .u8 0, .int .u8 0, .int .u8 0] 59)) = .ok (goInt n) w2 ∧
    (∀ i, i < 10 → w2.cell? ⟨w.heap.size, 0 + i, none⟩ = some (.int .u8 ((firstTen s).getD i 0))) ∧ Below w.heap.size w w2 := by
  have hg : (w.alloc (.cells #[.int .u8 0, .int .u8 0, .int .u8 0, .int .u8 0, .int .u8 0, .int .u8 0, .int .u8 0, .int .u8 0, .int .u8 0, .int .u8 0] 59)).heap[w.heap.size]? = some (.cells #[.int .u8 0, .int .u8 0, .int .u8 0, .int .u8 0, .int .u8 0, .int .u8 0, .int .u8 0, .int .u8 0, .int .u8 0, .int .u8 0] 59 (0, 0)) := heap_alloc_new w _
  have hr := run_copy_any_string (P := Tryd.prog) _ 55 9 3 5 w.heap.size 10 10 s _ 59 Tryd.underlying55 (by kernel_rfl) hg (by simp)
  refine ⟨_, _, hr, fun i hi => ?_, ?_⟩
  · have h2 := setRow_heap (w.alloc (.cells #[.int .u8 0, .int .u8 0, .int .u8 0, .int .u8 0, .int .u8 0, .int .u8 0, .int .u8 0, .int .u8 0, .int .u8 0, .int .u8 0] 59)) w.heap.size _ ((Lib.byteCells s.data.toList).take 10 ++ (#[Value.int .u8 0, .int .u8 0, .int .u8 0, .int .u8 0, .int .u8 0, .int .u8 0, .int .u8 0, .int .u8 0, .int .u8 0, .int .u8 0] : Array Value).toList.drop (Nat.min s.size 10)).toArray 59 _ hg
    rw [Nat.zero_add, cell_of_row _ _ _ _ _ _ h2]
    have he : ((Lib.byteCells s.data.toList).take 10 ++ (#[Value.int .u8 0, .int .u8 0, .int .u8 0, .int .u8 0, .int .u8 0, .int .u8 0, .int .u8 0, .int .u8 0, .int .u8 0, .int .u8 0] : Array Value).toList.drop (Nat.min s.size 10)) = (firstTen s).map (Value.int .u8) := by
      simp only [firstTen, List.map_append, List.map_take, List.map_map, List.map_replicate]
      congr 1
      show (List.replicate 10 (Value.int .u8 0)).drop _ = _
      rw [List.drop_replicate]
    rw [he]
    have hl := firstTen_length s
    simp [List.getD, show i < (firstTen s).length by omega]
  · exact ((Below.refl _ _).alloc (Nat.le_refl _) _).trans ⟨rfl, rfl, rfl, by simp, fun k hk => setRow_other _ _ k _ (by omega)⟩
end Go.Proofs.YtlldpjcnkckclaaDoor.Hand
