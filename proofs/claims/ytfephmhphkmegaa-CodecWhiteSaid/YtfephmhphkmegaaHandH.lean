/- A row of bytes of the call's own, and codec.Unpercent. -/
import Derived.Test.YtfephmhphkmegaaHandE
namespace Go.Proofs.Ytfephmhphkmegaa.Hd
open Go.RowKit Go.Maps Go.Proofs.YtfephmhphkmegaaW.PrintWords Go.Proofs.YtfephmhphkmegaaW.PrintLast Go.Proofs.YtfephmhphkmegaaW.PrintMore
set_option linter.unusedVariables false
set_option linter.unusedSimpArgs false

def BR (w : World) (base : Nat) (v : Value) (l : List UInt8) : Prop := w.ownsRow base 5 1 v l.length (Lib.byteCells l)
theorem BR.app {w : World} {base : Nat} {v : Value} {l : List UInt8} (h : BR w base v l) (ty : TypeId) (m : List UInt8) (hb : base ≤ w.heap.size) (hl : l.length + m.length ≤ 1000000000000) :
    ∃ v' w', (Builtin.append_ #[24, 24] ty #[v, .slice (some ⟨w.heap.size, 0, none⟩) m.length m.length]).run Try.prog (w.alloc (.cells (Lib.byteCells m).toArray 5)) = .ok v' w' ∧
      BR w' base v' (l ++ m) ∧ Below base w w' := by
  obtain ⟨i0, hi, hz0, hz1, hz2⟩ := info_parts Try.info5
  obtain ⟨v', w', hr, ho, hg, _⟩ := run_append_own (P := Try.prog) (w.alloc (.cells (Lib.byteCells m).toArray 5)) base 24 ty 5 i0 (.int .u8 0) 1 1 Try.underlying24 hi hz0 hz1 hz2 rfl (by omega) v l.length (Lib.byteCells l) (World.ownsRow.alloc h _)
    ⟨w.heap.size, 0, none⟩ m.length m.length (Lib.byteCells m) (by simp [Lib.byteCells]) (by simpa using World.news_of_block (cs := (Lib.byteCells m).toArray) (t := 5) (fr := (0, 0)) (heap_alloc_new w (.cells (Lib.byteCells m).toArray 5))) (by intro u hu; simp [Lib.byteCells] at hu; obtain ⟨x, _, rfl⟩ := hu; rfl) (by unfold maxLen; omega) (by omega) (by simp; omega)
  refine ⟨v', w', hr, ?_, ?_⟩
  · unfold BR
    rw [Lib.byteCells_append]
    simpa using ho
  · exact ((Below.refl base w).alloc hb _).grown hg (by simp; omega) (fun k hk => own_base h k hk)
theorem BR.str {w : World} {base : Nat} {v : Value} {l : List UInt8} (h : BR w base v l) (ty : TypeId) (s : ByteArray) (hb : base ≤ w.heap.size) (hl : l.length + s.size ≤ 1000000000000) :
    ∃ v' w', (Builtin.append_ #[24, 9] ty #[v, .string s]).run Try.prog w = .ok v' w' ∧ BR w' base v' (l ++ dl s) ∧ Below base w w' := by
  obtain ⟨i0, hi, hz0, hz1, hz2⟩ := info_parts Try.info5
  obtain ⟨v', w', hr, ho, hg, _⟩ := Lib.run_append_own_string (P := Try.prog) w base 24 9 ty 5 i0 Try.underlying24 Try.underlying9 hi hz0 hz1 hz2 v l.length (Lib.byteCells l) h s (by unfold maxLen; omega) (by omega) hb
  refine ⟨v', w', hr, ?_, (Below.refl base w).grown hg hb (fun k hk => own_base h k hk)⟩
  unfold BR
  rw [Lib.byteCells_append, List.length_append, dl_length]
  exact ho
theorem BR.below {w w' : World} {base : Nat} {v : Value} {l : List UInt8} (h : BR w base v l) (hb : Below w.heap.size w w') : BR w' base v l := pw_own_below h hb
section
variable {ops : Array Oper} {rest : List Oper} {o : Oper} {a : Act} {Q : Exit → Act → World → Prop} {w : World}
theorem wp_app (hgd : o.guard = none) (sl x : Operand) (ho : o.op = .call { callee := .builtin .append, args := #[sl, x], argTypes := #[24, 24] })
    (base : Nat) (v : Value) (l m : List UInt8) (hs : a.eval sl = v) (n : Nat) (hm : n = m.length) (cs : Array Value) (hcs : cs = (Lib.byteCells m).toArray) (hx : a.eval x = .slice (some ⟨w.heap.size, 0, none⟩) n n) (hB : BR w base v l) (hb : base ≤ w.heap.size) (hl : l.length + m.length ≤ 1000000000000)
    (h : ∀ v' w', BR w' base v' (l ++ m) → Below base w w' → wpList Try.prog ops Q rest (a.put o.dst v') w') : wpList Try.prog ops Q (o :: rest) a (w.alloc (.cells cs 5)) := by
  subst hm
  subst hcs
  refine wpList_plain hgd fun K hK => ?_
  obtain ⟨v', w', hr, h2, h3⟩ := hB.app o.type m hb hl
  unfold Oper.wp execOp
  simp only [ho, resolve, invoke, builtin, Sem.run_bind, Sem.run_pure, Result.andThen_ok, List.map_toArray, List.map_cons, List.map_nil, hs, hx, hr]
  exact hK _ _ (h v' w' h2 h3)
theorem wp_str (hgd : o.guard = none) (sl x : Operand) (ho : o.op = .call { callee := .builtin .append, args := #[sl, x], argTypes := #[24, 9] })
    (base : Nat) (v : Value) (l : List UInt8) (s : ByteArray) (hs : a.eval sl = v) (hx : a.eval x = .string s) (hB : BR w base v l) (hb : base ≤ w.heap.size) (hl : l.length + s.size ≤ 1000000000000)
    (h : ∀ v' w', BR w' base v' (l ++ dl s) → Below base w w' → wpList Try.prog ops Q rest (a.put o.dst v') w') : wpList Try.prog ops Q (o :: rest) a w := by
  refine wpList_plain hgd fun K hK => ?_
  obtain ⟨v', w', hr, h2, h3⟩ := hB.str o.type s hb hl
  unfold Oper.wp execOp
  simp only [ho, resolve, invoke, builtin, Sem.run_bind, Sem.run_pure, Result.andThen_ok, List.map_toArray, List.map_cons, List.map_nil, hs, hx, hr]
  exact hK _ _ (h v' w' h2 h3)
end
theorem BR.of_R {w : World} {base : Nat} {ok : Nat → Prop} {v : Value} (h : Kd.R (Kd.int .u8) 5 w base ok v ([] : List Int)) : BR w base v [] := by
  have h2 : w.ownsRow base 5 1 v 0 (nums .u8 []) := Kd.own_of_R h
  exact h2
theorem BR.string {w : World} {base : Nat} {v : Value} {l : List UInt8} (h : BR w base v l) : (convert 24 9 v).run Try.prog w = .ok (.string ⟨l.toArray⟩) w := by
  have e : Lib.byteCells l = nums .u8 (l.map fun c => (c.toNat : Int)) := by simp [Lib.byteCells, nums]
  have h2 : w.ownsRow base 5 1 v l.length (nums .u8 (l.map fun c => (c.toNat : Int))) := by rw [← e]; exact h
  rw [own_string (P := Try.prog) Try.underlying24 Try.underlying5 Try.underlying9 h2]
  have e2 : strOfNums (l.map fun c => (c.toNat : Int)) = ⟨l.toArray⟩ := by simp [strOfNums, Function.comp_def]
  rw [e2]
theorem unper_skip : ∀ (t : List UInt8) k, Pl.unper t k = Pl.unper (t.drop k) 0
  | [], 0 => rfl
  | [], k + 1 => rfl
  | c :: t, 0 => rfl
  | c :: t, k + 1 => by rw [Pl.unper, List.drop_succ_cons, unper_skip t k]
theorem pair_len {l : List UInt8} {v : UInt8} (h : Pl.pair l = some v) : 2 ≤ l.length := by
  match l, h with
  | a :: b :: t, _ => simp only [List.length_cons]; omega

/-! ### Unpercent -/
set_option maxHeartbeats 4000000 in
theorem Unpercent_calls (s : ByteArray) (hs : s.size ≤ 100000000) (w : World) :
    Calls Try.prog 14 #[.string s] w fun e w' => e = .returned (.tuple #[.string ⟨(Pl.unper (dl s) 0).1.toArray⟩, .bool (Pl.unper (dl s) 0).2]) ∧ Below w.heap.size w w' := by
  go_enter Try.func14, Try.ntmps14
  go_wp2_with (first
    | (go_at_call 29; refine (hexValues_calls _).mono ?_; rintro e w1 ⟨rfl, hT1, hB1⟩; have HT1 := Lib.hid hT1; have HB1 := Lib.hid hB1; clear hT1 hB1)
    | (at_make; refine HandW.R_make0 (Kd.int .u8) _ 5 rfl (N := 14) rfl 24 _ _ rfl (s.size : Int) rfl rfl Try.underlying24 (.int .u8 0) 1 info5 (by omega) (ok := fun _ => True) trivial (by omega) (by omega) (Below.refl _ _) (Nat.le_refl _) ?_; intro v5 w3 ho3 hb3 _ _))
  have HR3 := Lib.hid (BR.of_R ho3)
  have HT3 := Lib.hid (HT1.out.below hb3 HT1.out.lt)
  have hlt1 : w.heap.size < w1.heap.size := HT1.out.lt
  have HB3 := Lib.hid (HB1.out.trans (hb3.mono HB1.out.size))
  have hs3 := hb3.size
  clear ho3 hb3
  go_loopw [5, 6, 7] (fun v b i wr => ∃ (k : Nat) (out : List UInt8) (ok : Bool), i = .int .i64 k ∧ b = .bool ok ∧ k ≤ s.size ∧ out.length ≤ k ∧ Hid (out ++ (Pl.unper ((dl s).drop k) 0).1 = (Pl.unper (dl s) 0).1) ∧ Hid ((ok && (Pl.unper ((dl s).drop k) 0).2) = (Pl.unper (dl s) 0).2) ∧
      Hid (BR wr w1.heap.size v out) ∧ Hid (IsTab wr w.heap.size 32 Pl.hexv) ∧ Hid (Below w.heap.size w wr) ∧ w1.heap.size ≤ wr.heap.size) (fun _ _ i _ => s.size - (intOf i).toNat)
  case atStart => exact ⟨0, [], true, rfl, rfl, by omega, by simp, Lib.hid rfl, Lib.hid (by simp), HR3, HT3, HB3, hs3⟩
  case round =>
    obtain ⟨k, out, ok, rfl, rfl, hk, hol, HE1, HE2, HR, HT, HB, hsz⟩ := hrel
    by_cases hlt : k < s.size
    · have hlt' : (k : Int) < (s.size : Int) := by omega
      obtain ⟨c, hc⟩ : ∃ c : UInt8, s[k]'hlt = c := ⟨_, rfl⟩
      have hcn : ∀ h : k < s.size, (s[k]'h).toNat = c.toNat := fun _ => by rw [hc]
      have HD := Aside0.mk (dl_drop s k hlt)
      have HE1' := HE1.out
      have HE2' := HE2.out
      rw [HD.out, hc, Pl.unper] at HE1' HE2'
      have HC := Aside0.mk hc
      have hal : out.length + ([c] : List UInt8).length ≤ 1000000000000 := by simp only [List.length_singleton]; omega
      clear hc
      by_cases h43 : c = 43
      · subst h43
        rw [if_pos rfl] at HE1' HE2'
        have HE1 := Lib.hid HE1'
        have HE2 := Lib.hid HE2'
        clear HE1' HE2'
        go_wp2_with (at_builtin; (with_reducible apply wp_app (w := wr) (m := [32]) (n := 1) (l := out) (base := w1.heap.size)); (case hgd => rfl); (case ho => rfl); (case hs => rfl); (case hm => rfl); (case hcs => rfl); (case hx => rfl); (case hB => exact HR.out); (case hb => exact hsz); (case hl => simp only [List.length_singleton]; omega); intro v8 w6 ho6 hb6)
        go_roundw
        case rel =>
          refine ⟨k + 1, out ++ [32], ok, by go_num, rfl, by omega, by simp only [List.length_append, List.length_singleton]; omega, Lib.hid ?_, Lib.hid ?_, Lib.hid ho6, Lib.hid ((HT.out.below hb6 hlt1)), Lib.hid (HB.out.trans (hb6.mono (by omega))), Nat.le_trans hsz hb6.size⟩
          · rw [← HE1.out]; simp
          · rw [← HE2.out]
        case measure => simp [intOf]; omega
      · rw [if_neg h43] at HE1' HE2'
        have h43n : c.toNat ≠ 43 := fun e => h43 (UInt8.toNat_inj.1 e)
        have hn43 : ((c.toNat : Int) == 43) = false := by simp; omega
        by_cases h37 : c = 37
        · subst h37
          rw [if_pos rfl] at HE1' HE2'
          have q5 : (0 : Int) ≤ (k : Int) + 1 := by omega
          have q6 : (k : Int) + 1 ≤ (s.size : Int) := by omega
          have q7 : ((k : Int) + 1).toNat = k + 1 := by omega
          have hpr := fun W hT => pair_c (s.extract (k + 1) s.size) (by rw [ext_size s _ _ (Nat.le_refl _)]; omega) w.heap.size 32 W hT
          rw [show dl (s.extract (k + 1) s.size) = (dl s).drop (k + 1) from dl_tail s (k + 1)] at hpr
          cases hp : Pl.pair ((dl s).drop (k + 1)) with
          | none =>
            rw [hp] at HE1' HE2'
            rw [show pairV ((dl s).drop (k + 1)) = .tuple #[.int .u8 0, .bool false] by unfold pairV; rw [hp]] at hpr
            have HE1 := Lib.hid HE1'
            have HE2 := Lib.hid HE2'
            clear HE1' HE2' hp
            go_wp2_with (first
              | (go_at_call 30; refine (hpr _ HT.out).mono ?_; rintro e w4 ⟨rfl, hd4⟩; have HR4 := Lib.hid (HR.out.below hd4.below); have HT4 := Lib.hid (HT.out.below hd4.below HT.out.lt); have HB4 := Lib.hid (HB.out.trans (hd4.below.mono HB.out.size)); have hsz4 : w1.heap.size ≤ w4.heap.size := Nat.le_trans hsz hd4.below.size; clear hd4)
              | (at_builtin; (with_reducible apply wp_app (w := w4) (m := [37]) (n := 1) (l := out) (base := w1.heap.size)); (case hgd => rfl); (case ho => rfl); (case hs => rfl); (case hm => rfl); (case hcs => rfl); (case hx => rfl); (case hB => exact HR4.out); (case hb => exact hsz4); (case hl => simp only [List.length_singleton]; omega); intro v8 w6 ho6 hb6))
            go_roundw
            case rel =>
              refine ⟨k + 1, out ++ [37], false, by go_num, rfl, by omega, by simp only [List.length_append, List.length_singleton]; omega, Lib.hid ?_, Lib.hid ?_, Lib.hid ho6, Lib.hid (HT4.out.below hb6 hlt1), Lib.hid (HB4.out.trans (hb6.mono (by omega))), Nat.le_trans hsz4 hb6.size⟩
              · rw [← HE1.out]; simp
              · rw [← HE2.out]; simp
            case measure => simp [intOf]; omega
          | some v =>
            have hln := pair_len hp
            rw [List.length_drop, dl_length] at hln
            rw [hp] at HE1' HE2'
            rw [show pairV ((dl s).drop (k + 1)) = .tuple #[.int .u8 (v.toNat : Int), .bool true] by unfold pairV; rw [hp]] at hpr
            have hsk : Pl.unper ((dl s).drop (k + 1)) 2 = Pl.unper ((dl s).drop (k + 3)) 0 := by rw [unper_skip, List.drop_drop]
            rw [hsk] at HE1' HE2'
            have HE1 := Lib.hid HE1'
            have HE2 := Lib.hid HE2'
            clear HE1' HE2' hp hsk
            go_wp2_with (first
              | (go_at_call 30; refine (hpr _ HT.out).mono ?_; rintro e w4 ⟨rfl, hd4⟩; have HR4 := Lib.hid (HR.out.below hd4.below); have HT4 := Lib.hid (HT.out.below hd4.below HT.out.lt); have HB4 := Lib.hid (HB.out.trans (hd4.below.mono HB.out.size)); have hsz4 : w1.heap.size ≤ w4.heap.size := Nat.le_trans hsz hd4.below.size; clear hd4)
              | (at_builtin; (with_reducible apply wp_app (w := w4) (m := [v]) (n := 1) (l := out) (base := w1.heap.size)); (case hgd => rfl); (case ho => rfl); (case hs => rfl); (case hm => rfl); (case hcs => rfl); (case hx => rfl); (case hB => exact HR4.out); (case hb => exact hsz4); (case hl => simp only [List.length_singleton]; omega); intro v8 w6 ho6 hb6))
            go_roundw
            case rel =>
              refine ⟨k + 3, out ++ [v], ok, by go_num, rfl, by omega, by simp only [List.length_append, List.length_singleton]; omega, Lib.hid ?_, Lib.hid ?_, Lib.hid ho6, Lib.hid (HT4.out.below hb6 hlt1), Lib.hid (HB4.out.trans (hb6.mono (by omega))), Nat.le_trans hsz4 hb6.size⟩
              · rw [← HE1.out]; simp
              · rw [← HE2.out]
            case measure => simp [intOf]; omega
        · rw [if_neg h37] at HE1' HE2'
          have h37n : c.toNat ≠ 37 := fun e => h37 (UInt8.toNat_inj.1 e)
          have hn37 : ((c.toNat : Int) == 37) = false := by simp; omega
          have HE1 := Lib.hid HE1'
          have HE2 := Lib.hid HE2'
          clear HE1' HE2'
          go_wp2_with (at_builtin; (with_reducible apply wp_app (w := wr) (m := [c]) (n := 1) (l := out) (base := w1.heap.size)); (case hgd => rfl); (case ho => rfl); (case hs => rfl); (case hm => rfl); (case hcs => rfl); (case hx => rfl); (case hB => exact HR.out); (case hb => exact hsz); (case hl => simp only [List.length_singleton]; omega); intro v8 w6 ho6 hb6)
          go_roundw
          case rel =>
            refine ⟨k + 1, out ++ [c], ok, by go_num, rfl, by omega, by simp only [List.length_append, List.length_singleton]; omega, Lib.hid ?_, Lib.hid ?_, Lib.hid ho6, Lib.hid (HT.out.below hb6 hlt1), Lib.hid (HB.out.trans (hb6.mono (by omega))), Nat.le_trans hsz hb6.size⟩
            · rw [← HE1.out]; simp
            · rw [← HE2.out]
          case measure => simp [intOf]; omega
    · have hd : (dl s).drop k = [] := List.drop_eq_nil_of_le (by rw [dl_length]; omega)
      have HE1' := HE1.out
      have HE2' := HE2.out
      rw [hd] at HE1' HE2'
      have hge : ¬ (k : Int) < (s.size : Int) := by omega
      have HF1 : Hid (out = (Pl.unper (dl s) 0).1) := Lib.hid (by rw [← HE1']; simp [Pl.unper])
      have HF2 : Hid (ok = (Pl.unper (dl s) 0).2) := Lib.hid (by rw [← HE2']; simp [Pl.unper])
      have hcv := HR.out.string
      clear hd HE1' HE2'
      go_wp2
      go_ret2
      refine ⟨?_, HB.out⟩
      show Ending.returned (.tuple #[.string ⟨out.toArray⟩, .bool ok]) = _
      rw [HF1.out, HF2.out]
end Go.Proofs.Ytfephmhphkmegaa.Hd
