/- digest.Sum at strings of three bytes: by hand. The start, the padding, the one block, the bytes of the state. -/
import Derived.Test.YtlldpjcnkckclaaDoorHandS
import Derived.Test.YtlldpjcnkckclaaDoorHandW
import Derived.Lib.AppendStr
import Derived.Lib.Bytes
namespace Go.Proofs.YtlldpjcnkckclaaDoor.Hand
open Go.RowKit Go.Proofs.YtlldpjcnkckclaaDoorW.PrintWords
set_option linter.unusedVariables false
set_option linter.unusedSimpArgs false

theorem info5 : (Tryd.prog.info? 5).map (fun i => (i.zero, i.size, i.bytes)) = some (some (.int .u8 0), 1, 1) := by kernel_rfl
def H0 : List Int := [1779033703, 3144134277, 1013904242, 2773480762, 1359893119, 2600822924, 528734635, 1541459225]
theorem begin_calls (w : World) : Calls Tryd.prog 33 #[] w fun e w' => e = .returned (.agg #[.int .u32 1779033703, .int .u32 3144134277, .int .u32 1013904242, .int .u32 2773480762, .int .u32 1359893119, .int .u32 2600822924, .int .u32 528734635, .int .u32 1541459225]) ∧ Below w.heap.size w w' := by
  have hu52 := Tryd.underlying52
  go_enter Tryd.func33, Tryd.ntmps33
  go_wp2
  refine bodyPost_ret (v := .agg #[.int .u32 1779033703, .int .u32 3144134277, .int .u32 1013904242, .int .u32 2773480762, .int .u32 1359893119, .int .u32 2600822924, .int .u32 528734635, .int .u32 1541459225]) ?_ rfl ⟨rfl, (Below.refl _ _).alloc (Nat.le_refl _) _⟩
  simp only [results, show Tryd.f33.results = #[.cell 0 52] from rfl]
  go_simp

/-! ### a row of bytes of the call's own -/
def BR (w : World) (base : Nat) (v : Value) (xs : List Int) : Prop := w.ownsRow base 5 1 v xs.length (nums .u8 xs)
theorem BR.app {w : World} {base : Nat} {v : Value} {xs : List Int} (h : BR w base v xs) (ty : TypeId) (ys : List Int) (hb : base ≤ w.heap.size) (hl : xs.length + ys.length ≤ 1000) :
    ∃ v' w', (Builtin.append_ #[55, 55] ty #[v, .slice (some ⟨w.heap.size, 0, none⟩) ys.length ys.length]).run Tryd.prog (w.alloc (.cells (nums .u8 ys).toArray 5)) = .ok v' w' ∧
      BR w' base v' (xs ++ ys) ∧ Below base w w' := by
  obtain ⟨i0, hi, hz0, hz1, hz2⟩ := info_parts info5
  obtain ⟨v', w', hr, ho, hg, _⟩ := run_append_own (P := Tryd.prog) (w.alloc (.cells (nums .u8 ys).toArray 5)) base 55 ty 5 i0 (.int .u8 0) 1 1 Tryd.underlying55 hi hz0 hz1 hz2 rfl (by omega) v xs.length (nums .u8 xs) (World.ownsRow.alloc h _)
    ⟨w.heap.size, 0, none⟩ ys.length ys.length (nums .u8 ys) (by simp [nums]) (by simpa using World.news_of_block (cs := (nums .u8 ys).toArray) (t := 5) (fr := (0, 0)) (heap_alloc_new w (.cells (nums .u8 ys).toArray 5))) (by intro u hu; simp [nums] at hu; obtain ⟨x, _, rfl⟩ := hu; rfl) (by unfold maxLen; omega) (by omega) (by simp; omega)
  refine ⟨v', w', hr, ?_, ?_⟩
  · unfold BR
    rw [nums_append]
    simpa using ho
  · exact ((Below.refl base w).alloc hb _).grown hg (by simp; omega) (fun k hk => own_base h k hk)
theorem BR.str {w : World} {base : Nat} {v : Value} {xs : List Int} (h : BR w base v xs) (ty : TypeId) (s : ByteArray) (hb : base ≤ w.heap.size) (hl : xs.length + s.size ≤ 1000) :
    ∃ v' w', (Builtin.append_ #[55, 9] ty #[v, .string s]).run Tryd.prog w = .ok v' w' ∧ BR w' base v' (xs ++ s.data.toList.map fun b => (b.toNat : Int)) ∧ Below base w w' := by
  obtain ⟨i0, hi, hz0, hz1, hz2⟩ := info_parts info5
  obtain ⟨v', w', hr, ho, hg, _⟩ := Lib.run_append_own_string (P := Tryd.prog) w base 55 9 ty 5 i0 Tryd.underlying55 Tryd.underlying9 hi hz0 hz1 hz2 v xs.length (nums .u8 xs) h s (by unfold maxLen; omega) (by omega) hb
  refine ⟨v', w', hr, ?_, (Below.refl base w).grown hg hb (fun k hk => own_base h k hk)⟩
  unfold BR
  rw [nums_append]
  have e : (xs ++ s.data.toList.map fun b => (b.toNat : Int)).length = xs.length + s.size := by simp
  rw [e]
  have e2 : nums .u8 (s.data.toList.map fun b => (b.toNat : Int)) = Lib.strCells s := by simp [nums, Lib.strCells]
  rw [e2]
  exact ho
theorem BR.below {w w' : World} {base : Nat} {v : Value} {xs : List Int} (h : BR w base v xs) (hb : Below w.heap.size w w') : BR w' base v xs := pw_own_below h hb
section
variable {ops : Array Oper} {rest : List Oper} {o : Oper} {a : Act} {Q : Exit → Act → World → Prop} {w : World}
theorem wp_app (hgd : o.guard = none) (sl x : Operand) (ho : o.op = .call { callee := .builtin .append, args := #[sl, x], argTypes := #[55, 55] })
    (base : Nat) (v : Value) (xs ys : List Int) (hs : a.eval sl = v) (m : Nat) (hm : m = ys.length) (cs : Array Value) (hcs : cs = (nums .u8 ys).toArray) (hx : a.eval x = .slice (some ⟨w.heap.size, 0, none⟩) m m) (hB : BR w base v xs) (hb : base ≤ w.heap.size) (hl : xs.length + ys.length ≤ 1000)
    (h : ∀ v' w', BR w' base v' (xs ++ ys) → Below base w w' → wpList Tryd.prog ops Q rest (a.put o.dst v') w') : wpList Tryd.prog ops Q (o :: rest) a (w.alloc (.cells cs 5)) := by
  subst hm
  subst hcs
  refine wpList_plain hgd fun K hK => ?_
  obtain ⟨v', w', hr, h2, h3⟩ := hB.app o.type ys hb hl
  unfold Oper.wp execOp
  simp only [ho, resolve, invoke, builtin, Sem.run_bind, Sem.run_pure, Result.andThen_ok, List.map_toArray, List.map_cons, List.map_nil, hs, hx, hr]
  exact hK _ _ (h v' w' h2 h3)
theorem wp_str (hgd : o.guard = none) (sl x : Operand) (ho : o.op = .call { callee := .builtin .append, args := #[sl, x], argTypes := #[55, 9] })
    (base : Nat) (v : Value) (xs : List Int) (s : ByteArray) (hs : a.eval sl = v) (hx : a.eval x = .string s) (hB : BR w base v xs) (hb : base ≤ w.heap.size) (hl : xs.length + s.size ≤ 1000)
    (h : ∀ v' w', BR w' base v' (xs ++ s.data.toList.map fun b => (b.toNat : Int)) → Below base w w' → wpList Tryd.prog ops Q rest (a.put o.dst v') w') : wpList Tryd.prog ops Q (o :: rest) a w := by
  refine wpList_plain hgd fun K hK => ?_
  obtain ⟨v', w', hr, h2, h3⟩ := hB.str o.type s hb hl
  unfold Oper.wp execOp
  simp only [ho, resolve, invoke, builtin, Sem.run_bind, Sem.run_pure, Result.andThen_ok, List.map_toArray, List.map_cons, List.map_nil, hs, hx, hr]
  exact hK _ _ (h v' w' h2 h3)
end
theorem BR.of_R {w : World} {base : Nat} {ok : Nat → Prop} {v : Value} {xs : List Int} (h : Kd.R (Kd.int .u8) 5 w base ok v xs) : BR w base v xs := Kd.own_of_R h
def b4 (s : ByteArray) : List Int := s.data.toList.map (fun b => (b.toNat : Int)) ++ [128]
/-- What holds between the steps: the state's block, the older blocks, the place from which the rows lie. -/
def BI (w : World) (S base : Nat) (wr : World) : Prop := WB wr S 52 H0 ∧ Below w.heap.size w wr ∧ base ≤ wr.heap.size
theorem BI.next {w wr w' : World} {S base : Nat} (h : BI w S base wr) (hS : S < base) (hw : w.heap.size ≤ base) (hb : Below base wr w') : BI w S base w' :=
  ⟨(hb.block S hS).trans h.1, h.2.1.trans ⟨hb.os, hb.tape, hb.output, hb.size, fun k hk => hb.block k (Nat.lt_of_lt_of_le hk hw)⟩, Nat.le_trans h.2.2 hb.size⟩
theorem Laid.below {w w' : World} (h : Laid w) (hb : Below w.heap.size w w') : Laid w' := ⟨Nat.lt_of_lt_of_le h.1 hb.size, fun j hj => (hb.cell h.1).trans (h.2 j hj)⟩
def sumState (L : ByteArray) : List Int := fin H0 (rnd (we L 64) 64 (R8.of H0)) 8
theorem sumState_length (L : ByteArray) : (sumState L).length = 8 := fin_length _ _ _
def outN (F : List Int) : Nat → List Int
  | 0 => []
  | n + 1 => outN F n ++ [rdn F n / 16777216 % 256, rdn F n / 65536 % 256, rdn F n / 256 % 256, rdn F n % 256]
theorem outN_length (F : List Int) (n : Nat) : (outN F n).length = 4 * n := by
  induction n with
  | zero => rfl
  | succ n ih => simp [outN, ih]; omega
def sb (n : Nat) : Int := 24 / 2 ^ (56 - 8 * n) % 256
def lens : Nat → List Int
  | 0 => []
  | n + 1 => lens n ++ [sb n]
theorem lens_length (n : Nat) : (lens n).length = n := by
  induction n with
  | zero => rfl
  | succ n ih => simp [lens, ih]
def sum3 (s : ByteArray) : ByteArray := strOfNums (outN (sumState (strOfNums (b4 s ++ List.replicate 52 0 ++ lens 8))) 8)
def lenOfV : Value → Nat
  | .slice _ n _ => n
  | .string s => s.size
  | _ => 0
set_option maxHeartbeats 2000000 in
set_option maxRecDepth 1000000 in
theorem sum_calls (s : ByteArray) (hs : s.size = 3) (w : World) (hG : Laid w) :
    Calls Tryd.prog 24 #[.string s] w fun e w' => e = .returned (.string (sum3 s)) ∧ Below w.heap.size w w' := by
  have hu52 := Tryd.underlying52
  go_enter Tryd.func24, Tryd.ntmps24
  go_wp2_with (go_at_call 33; refine (begin_calls _).mono ?_; rintro e w1 ⟨rfl, hB1⟩)
  have hS : Hid (WB (w1.alloc (.cells #[.int .u32 1779033703, .int .u32 3144134277, .int .u32 1013904242, .int .u32 2773480762, .int .u32 1359893119, .int .u32 2600822924, .int .u32 528734635, .int .u32 1541459225] 52)) w1.heap.size 52 H0) := by
    refine Lib.hid ?_
    unfold WB
    rw [heap_alloc_new]
    rfl
  have hB : Below w.heap.size w (w1.alloc (.cells #[.int .u32 1779033703, .int .u32 3144134277, .int .u32 1013904242, .int .u32 2773480762, .int .u32 1359893119, .int .u32 2600822924, .int .u32 528734635, .int .u32 1541459225] 52)) := hB1.alloc hB1.size _
  have hsz : w1.heap.size < (w1.alloc (.cells #[.int .u32 1779033703, .int .u32 3144134277, .int .u32 1013904242, .int .u32 2773480762, .int .u32 1359893119, .int .u32 2600822924, .int .u32 528734635, .int .u32 1541459225] 52)).heap.size := by simp
  generalize (w1.alloc (.cells #[.int .u32 1779033703, .int .u32 3144134277, .int .u32 1013904242, .int .u32 2773480762, .int .u32 1359893119, .int .u32 2600822924, .int .u32 528734635, .int .u32 1541459225] 52)) = w2 at hS hB hsz ⊢
  have hw12 := hB1.size
  obtain ⟨S, hSe⟩ : ∃ S, w1.heap.size = S := ⟨_, rfl⟩
  rw [hSe] at hS hsz hw12 ⊢
  go_loopw [4] (fun v wr => v = .string s ∧ wr = w2) (fun _ _ => 0)
  case atStart => exact ⟨rfl, rfl⟩
  case round =>
    obtain ⟨rfl, rfl⟩ := hrel
    go_wp2_with (first
      | (at_make; refine HandW.R_make0 (Kd.int .u8) _ 5 rfl (N := 22) rfl 55 _ _ rfl 128 rfl rfl Tryd.underlying55 (.int .u8 0) 1 info5 (by omega) (ok := fun _ => True) trivial (by decide) (by decide) (Below.refl _ _) (Nat.le_refl _) ?_; intro v5 w3 ho3 hb3 _ _)
      | (at_builtin; refine wp_str rfl _ _ rfl wr.heap.size _ _ _ rfl rfl (BR.of_R ho3) hb3.size (by simp [hs]) ?_; intro v6 w4 ho4 hb4)
      | (at_builtin; (with_reducible apply wp_app (w := w4) (ys := [128]) (m := 1) (v := v6) (base := wr.heap.size)); (case hgd => rfl); (case ho => rfl); (case hs => rfl); (case hm => rfl); (case hcs => rfl); (case hx => rfl); (case hB => exact ho4); (case hb => exact Nat.le_trans hb3.size hb4.size); (case hl => simp [hs]); intro v7 w5 ho5 hb5))
    have hl4 : b4 s = [] ++ s.data.toList.map (fun b => (b.toNat : Int)) ++ [128] := by simp [b4]
    rw [← hl4] at ho5
    have hb4l : (b4 s).length = 4 := by simp [b4, hs]
    have hbe : Below wr.heap.size wr w5 := (hb3.trans hb4).trans hb5
    have hin : BI w S wr.heap.size w5 ∧ BR w5 wr.heap.size v7 (b4 s) := ⟨⟨hS.out.below hbe, hB.trans ⟨hbe.os, hbe.tape, hbe.output, hbe.size, fun k hk => hbe.block k (Nat.lt_of_lt_of_le hk hB.size)⟩, hbe.size⟩, ho5⟩
    obtain ⟨base, hbase⟩ : ∃ b, wr.heap.size = b := ⟨_, rfl⟩
    rw [hbase] at hin
    have hSb : S < base := by omega
    have hwb : w.heap.size ≤ base := by rw [← hbase]; exact hB.size
    clear hbe hbase ho5 ho4 ho3 hb3 hb4 hb5 hS hB
    have hin := Lib.hid hin
    go_loopw [5] (fun v wx => ∃ (n : Nat) (A : Option Addr) (c : Nat), n ≤ 52 ∧ v = .slice A (4 + n) c ∧ Hid (BI w S base wx ∧ BR wx base v (b4 s ++ List.replicate n 0))) (fun v _ => 56 - lenOfV v)
    case atStart =>
      obtain ⟨A, c, e⟩ := own_slice hin.out.2
      subst e
      exact ⟨0, A, c, by omega, by rw [hb4l], Lib.hid (by simpa using hin.out)⟩
    clear hin
    case round =>
      obtain ⟨n, A, c, hn, rfl, hin⟩ := hrel
      by_cases hlt : n < 52
      · have hmod : (((4 + n : Nat) : Int) % 64 = 56) = False := by simp; omega
        go_wp2_with (at_builtin; (with_reducible apply wp_app (w := wr) (ys := [0]) (m := 1) (base := base)); (case hgd => rfl); (case ho => rfl); (case hs => rfl); (case hm => rfl); (case hcs => rfl); (case hx => rfl); (case hB => exact hin.out.2); (case hb => exact hin.out.1.2.2); (case hl => simp [hb4l]; omega); intro v8 w6 ho6 hb6)
        have hl6 : (b4 s ++ List.replicate n 0 ++ [(0 : Int)]).length = 4 + (n + 1) := by simp [hb4l, Nat.add_assoc]
        have hbi := hin.out.1.next hSb hwb hb6
        obtain ⟨A', c', e'⟩ := own_slice ho6
        rw [hl6] at e'
        subst e'
        go_roundw
        case rel => exact ⟨n + 1, A', c', by omega, rfl, Lib.hid ⟨hbi, by rw [List.replicate_succ', ← List.append_assoc]; exact ho6⟩⟩
        case measure => simp [lenOfV]; omega
      · obtain rfl : n = 52 := by omega
        go_wp2
        obtain ⟨b56, hb56⟩ : ∃ l, b4 s ++ List.replicate 52 (0 : Int) = l := ⟨_, rfl⟩
        have hl56 : b56.length = 56 := by rw [← hb56]; simp [hb4l]
        have hin2 := hin.out
        rw [hb56] at hin2
        have hin := Lib.hid hin2
        clear hin2
        simp only [Nat.reduceAdd]
        go_loopw [5, 7] (fun v i wx => ∃ (n : Nat) (A : Option Addr) (c : Nat), n ≤ 8 ∧ v = .slice A (56 + n) c ∧ i = .int .i64 (56 - 8 * (n : Int)) ∧ Hid (BI w S base wx ∧ BR wx base v (b56 ++ lens n))) (fun _ i _ => (intOf i + 8).toNat)
        case atStart => exact ⟨0, A, c, by omega, rfl, by simp, Lib.hid (by simpa [lens] using hin.out)⟩
        clear hin
        case round =>
          obtain ⟨n, A, c, hn, rfl, rfl, hin⟩ := hrel
          by_cases hlt : n < 8
          · go_wp2_with (at_builtin; ((with_reducible apply wp_app (w := wr) (ys := [sb n]) (m := 1) (base := base));  (case hgd => rfl); (case ho => rfl); (case hs => rfl); (case hm => rfl); (case hcs => rfl); (case hx => rfl); (case hB => (exact hin.out.2)); (case hb => (exact hin.out.1.2.2)); (case hl => (simp [hl56, lens_length]; omega)); intro v8 w6 ho6 hb6))
            have hl6 : (b56 ++ lens n ++ [sb n]).length = 56 + (n + 1) := by simp [hl56, lens_length, Nat.add_assoc]
            have hbi := hin.out.1.next hSb hwb hb6
            obtain ⟨A', c', e'⟩ := own_slice ho6
            rw [hl6] at e'
            subst e'
            go_roundw
            case rel => exact ⟨n + 1, A', c', by omega, rfl, by congr 1; omega, Lib.hid ⟨hbi, by rw [lens, ← List.append_assoc]; exact ho6⟩⟩
            case measure => simp [intOf]; omega
          · obtain rfl : n = 8 := by omega
            obtain ⟨L, hL⟩ : ∃ L, strOfNums (b56 ++ lens 8) = L := ⟨_, rfl⟩
            have hLs : L.size = 64 := by rw [← hL, strOfNums_size]; simp [hl56, lens_length]
            have hcv : (convert 55 9 (.slice A 64 c)).run Tryd.prog wr = .ok (.string L) wr := hL ▸ own_string (dst := 9) (src := 55) Tryd.underlying55 Tryd.underlying5 Tryd.underlying9 hin.out.2
            have hin := Lib.hid hin.out.1
            go_wp2
            simp only [Nat.reduceAdd, show (56 - 8 * ((8 : Nat) : Int)) = -8 from rfl]
            go_loopw [8] (fun v wx => (v = .string L ∧ Hid (BI w S base wx)) ∨ (v = .string ByteArray.empty ∧ Hid (WB wx S 52 (sumState L) ∧ Below w.heap.size w wx))) (fun v _ => lenOfV v)
            case atStart => exact .inl ⟨rfl, hin⟩
            clear hin hcv
            case round =>
              rcases hrel with ⟨rfl, hin⟩ | ⟨rfl, hin⟩
              · have hemp : L.toList.isEmpty = false := by
                  rw [← hL, Lib.strOfNums_toList]
                  have : (Lib.bytesOf (b56 ++ lens 8)).length = 64 := by rw [Lib.bytesOf_length]; simp [hl56, lens_length]
                  cases h : Lib.bytesOf (b56 ++ lens 8) with
                  | nil => rw [h] at this; cases this
                  | cons => rfl
                have hcut : L.extract 0 64 = L := by rw [← hLs]; exact ByteArray.extract_zero_size
                have hcut2 : L.extract 64 64 = ByteArray.empty := by simp
                have hLd := hG.below hin.out.2.1
                go_wp2_with (go_at_call 34; refine (process_calls S H0 L _ hLd hin.out.1 rfl hLs).mono ?_; rintro e w1 ⟨rfl, h1, h2⟩)
                have hgb : Below w.heap.size w w1 := ⟨h2.os.trans hin.out.2.1.os, h2.tape.trans hin.out.2.1.tape, h2.output.trans hin.out.2.1.output, Nat.le_trans hin.out.2.1.size h2.size, fun k hk => (h2.block k (Nat.lt_of_lt_of_le hk hin.out.2.1.size) (fun e => by cases e; omega)).trans (hin.out.2.1.block k hk)⟩
                have h1' : Hid (WB w1 S 52 (sumState L) ∧ Below w.heap.size w w1) := Lib.hid ⟨h1, hgb⟩
                go_roundw
                case rel => exact .inr ⟨rfl, h1'⟩
                case measure => simp [lenOfV, hLs]
              · go_wp2_with (at_make; refine HandW.R_make0 (Kd.int .u8) _ 5 rfl (N := 60) rfl 55 _ _ rfl 32 rfl rfl Tryd.underlying55 (.int .u8 0) 1 info5 (by omega) (ok := fun _ => True) trivial (by decide) (by decide) (Below.refl _ _) (Nat.le_refl _) ?_; intro v9 w9 ho9 hb9 _ _; have hW9 := Lib.hid (hin.out.1.below hb9); have k0 := hW9.out.cell 0 (by simp [sumState_length]); have k1 := hW9.out.cell 1 (by simp [sumState_length]); have k2 := hW9.out.cell 2 (by simp [sumState_length]); have k3 := hW9.out.cell 3 (by simp [sumState_length]); have k4 := hW9.out.cell 4 (by simp [sumState_length]); have k5 := hW9.out.cell 5 (by simp [sumState_length]); have k6 := hW9.out.cell 6 (by simp [sumState_length]); have k7 := hW9.out.cell 7 (by simp [sumState_length]))
                clear k0 k1 k2 k3 k4 k5 k6 k7 hW9
                have hB9 : Below w.heap.size w w9 := hin.out.2.trans ⟨hb9.os, hb9.tape, hb9.output, hb9.size, fun k hk => hb9.block k (Nat.lt_of_lt_of_le hk hin.out.2.size)⟩
                have hwr : w.heap.size ≤ wr.heap.size := hin.out.2.size
                have hs9 : wr.heap.size ≤ w9.heap.size := hb9.size
                obtain ⟨base9, hb9e⟩ : ∃ b, wr.heap.size = b := ⟨_, rfl⟩
                rw [hb9e] at hwr hs9 ho9
                have hin9 := Lib.hid (And.intro hB9 (And.intro hs9 (BR.of_R ho9)))
                clear hB9 hs9 ho9 hb9 hin
                obtain ⟨F, hF⟩ : ∃ F, sumState L = F := ⟨_, rfl⟩
                rw [hF]
                go_loopw [62, 9] (fun i v wx => ∃ (n : Nat) (A : Option Addr) (c : Nat), n ≤ 8 ∧ i = .int .i64 n ∧ v = .slice A (4 * n) c ∧ Hid (Below w.heap.size w wx ∧ base9 ≤ wx.heap.size ∧ BR wx base9 v (outN F n))) (fun i _ _ => 8 - (intOf i).toNat)
                case atStart =>
                  obtain ⟨A, c, e⟩ := own_slice hin9.out.2.2
                  subst e
                  exact ⟨0, A, c, by omega, rfl, by simp, Lib.hid (by simpa [outN] using hin9.out)⟩
                clear hin9
                case round =>
                  obtain ⟨n, A, c, hn, rfl, rfl, hin⟩ := hrel
                  by_cases hlt : n < 8
                  · have hix : ∀ W, Sem.run Tryd.prog (Instr.index 52 (Value.agg #[Value.int .u32 (rdn F 0), .int .u32 (rdn F 1), .int .u32 (rdn F 2), .int .u32 (rdn F 3), .int .u32 (rdn F 4), .int .u32 (rdn F 5), .int .u32 (rdn F 6), .int .u32 (rdn F 7)]) (.int .i64 n)) W = .ok (.int .u32 (rdn F n)) W := by
                      intro W
                      rcases (by omega : n = 0 ∨ n = 1 ∨ n = 2 ∨ n = 3 ∨ n = 4 ∨ n = 5 ∨ n = 6 ∨ n = 7) with rfl | rfl | rfl | rfl | rfl | rfl | rfl | rfl <;> kernel_rfl
                    go_wp2_with (at_builtin; ((with_reducible apply wp_app (w := wr) (ys := [rdn F n / 16777216 % 256, rdn F n / 65536 % 256, rdn F n / 256 % 256, rdn F n % 256]) (m := 4) (base := base9)); (case hgd => rfl); (case ho => rfl); (case hs => rfl); (case hm => rfl); (case hcs => rfl); (case hx => rfl); (case hB => exact hin.out.2.2); (case hb => exact hin.out.2.1); (case hl => simp [outN_length]; omega); intro v8 w6 ho6 hb6))
                    have hl6 : (outN F n ++ [rdn F n / 16777216 % 256, rdn F n / 65536 % 256, rdn F n / 256 % 256, rdn F n % 256]).length = 4 * (n + 1) := by simp [outN_length]; omega
                    obtain ⟨A', c', e'⟩ := own_slice ho6
                    rw [hl6] at e'
                    subst e'
                    have hb7 : Below w.heap.size w w6 := hin.out.1.trans ⟨hb6.os, hb6.tape, hb6.output, hb6.size, fun k hk => hb6.block k (Nat.lt_of_lt_of_le hk hwr)⟩
                    have hin6 := Lib.hid (And.intro hb7 (And.intro (Nat.le_trans hin.out.2.1 hb6.size) ho6))
                    go_roundw
                    case rel => exact ⟨n + 1, A', c', by omega, by push_cast; rfl, rfl, hin6⟩
                    case measure => simp [intOf]; omega
                  · obtain rfl : n = 8 := by omega
                    have hcv : (convert 55 9 (.slice A 32 c)).run Tryd.prog wr = .ok (.string (strOfNums (outN F 8))) wr := own_string (dst := 9) (src := 55) Tryd.underlying55 Tryd.underlying5 Tryd.underlying9 hin.out.2.2
                    have hB := hin.out.1
                    go_wp2
                    go_ret
                    refine ⟨?_, hB⟩
                    show Ending.returned (.string (strOfNums (outN F 8))) = _
                    rw [sum3, ← hF, ← hL, ← hb56]
end Go.Proofs.YtlldpjcnkckclaaDoor.Hand
