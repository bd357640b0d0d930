/- CodecWhite: two rows of bytes beside each other; Trim's answer. -/
import Derived.Test.YtfephmhphkmegaaHandL
import Derived.Test.YtfephmhphkmegaaPureA
import Derived.Maps.AppendAt
namespace Go.Proofs.Ytfephmhphkmegaa.Hd
open Go.RowKit Go.Maps Go.Proofs.YtfephmhphkmegaaW.PrintWords Go.Proofs.YtfephmhphkmegaaW.PrintLast Go.Proofs.YtfephmhphkmegaaW.PrintMore
set_option linter.unusedVariables false
set_option linter.unusedSimpArgs false

theorem str_at {w : World} {base : Nat} {v : Value} {l : List UInt8} (h : BR w base v l) (ty : TypeId) (s : ByteArray) {v' : Value} {w' : World} (hl : l.length + s.size ≤ 1000000000000)
    (hr : (Builtin.append_ #[24, 9] ty #[v, .string s]).run Try.prog w = .ok v' w') : v'.ownBlock = v.ownBlock ∨ v'.ownBlock = some w.heap.size := by
  obtain ⟨i0, hi, hz0, hz1, hz2⟩ := info_parts Try.info5
  have hx : (Lib.byteCells l).length = l.length := by simp [Lib.byteCells]
  rcases h.2 with ⟨rfl, h0⟩ | ⟨g, cap, cur, rfl, hbg, hg, hnc, hcm, hcs, htake⟩
  · by_cases hm : s.size = 0
    · have hf := Lib.run_firstCells_string (P := Try.prog) w 1 s
      rw [hm] at hf
      simp [Builtin.append_, run_underlying Try.underlying24, run_underlying Try.underlying9, sizeOf, typeInfo, hi, hz1, Builtin.lenOf, hm, hf] at hr
      obtain ⟨rfl, rfl⟩ := hr
      exact .inl rfl
    · have h2 := run_append_nil_string (P := Try.prog) w 24 9 ty 5 i0 (.int .u8 0) Try.underlying24 Try.underlying9 hi hz0 s (by omega) (by omega) (by rw [hz2]; omega)
      rw [h2] at hr
      injection hr with h3 h4
      subst h3
      exact .inr rfl
  · by_cases hroom : l.length + s.size ≤ cap
    · have h2 := Lib.run_append_room_string (P := Try.prog) w 24 9 ty 5 i0 Try.underlying24 Try.underlying9 hi hz1 g l.length cap cur hg s hroom (by omega)
      rw [h2] at hr
      injection hr with h3 h4
      subst h3
      exact .inl rfl
    · have h2 := Lib.run_append_grow_string (P := Try.prog) w 24 9 ty 5 i0 (.int .u8 0) Try.underlying24 Try.underlying9 hi hz0 ⟨g, 0, none⟩ l.length cap (Lib.byteCells l) (by rw [hz1]; simpa using hx) (World.ownsRow.cells h (g := g) rfl) s (by omega) (by omega)
        (by rw [hz2]; exact growslice_fits (by omega) (by omega))
      rw [h2] at hr
      injection hr with h3 h4
      subst h3
      exact .inr rfl
theorem BR.str2 {w : World} {base : Nat} {v : Value} {l : List UInt8} (h : BR w base v l) (ty : TypeId) (s : ByteArray) (hb : base ≤ w.heap.size) (hl : l.length + s.size ≤ 1000000000000) :
    ∃ v' w', (Builtin.append_ #[24, 9] ty #[v, .string s]).run Try.prog w = .ok v' w' ∧ BR w' base v' (l ++ dl s) ∧ Below base w w' ∧ w.grownBy w' v.ownBlock ∧ (v'.ownBlock = v.ownBlock ∨ ∃ b, v'.ownBlock = some b ∧ w.heap.size ≤ b) := by
  obtain ⟨i0, hi, hz0, hz1, hz2⟩ := info_parts Try.info5
  obtain ⟨v', w', hr, ho, hg, _⟩ := Lib.run_append_own_string (P := Try.prog) w base 24 9 ty 5 i0 Try.underlying24 Try.underlying9 hi hz0 hz1 hz2 v l.length (Lib.byteCells l) h s (by unfold maxLen; omega) (by omega) hb
  refine ⟨v', w', hr, ?_, (Below.refl base w).grown hg hb (fun k hk => own_base h k hk), hg, (str_at h ty s hl hr).imp id fun e => ⟨_, e, Nat.le_refl _⟩⟩
  unfold BR
  rw [Lib.byteCells_append, List.length_append, dl_length]
  exact ho
/-- The literal of one byte. -/
theorem BR.lit (w : World) (base : Nat) (c : UInt8) (hb : base ≤ w.heap.size) : BR (w.alloc (.cells #[.int .u8 (c.toNat : Int)] 5)) base (.slice (some ⟨w.heap.size, 0, none⟩) 1 1) [c] := by
  have h := World.ownsRow_lit (base := base) (e := 5) (size := 1) w #[.int .u8 (c.toNat : Int)] 1 hb (by decide) (by rfl)
  exact h
theorem BR.alloc {w : World} {base : Nat} {v : Value} {l : List UInt8} (h : BR w base v l) (o : Obj) : BR (w.alloc o) base v l := World.ownsRow.alloc h o
theorem BR.other {w w' : World} {base : Nat} {v u : Value} {l : List UInt8} (h : BR w base u l) (hg : w.grownBy w' v.ownBlock) (hne : NeRow v u) : BR w' base u l := World.ownsRow.kept h hg (ne_other hne)
theorem BR.app2 {w : World} {base : Nat} {v : Value} {l : List UInt8} (h : BR w base v l) (ty : TypeId) {g : Nat} {c : UInt8} (hc : BR w base (.slice (some ⟨g, 0, none⟩) 1 1) [c]) (hb : base ≤ w.heap.size) (hl : l.length + 1 ≤ 1000000000000) :
    ∃ v' w', (Builtin.append_ #[24, 24] ty #[v, .slice (some ⟨g, 0, none⟩) 1 1]).run Try.prog w = .ok v' w' ∧
      BR w' base v' (l ++ [c]) ∧ Below base w w' ∧ w.grownBy w' v.ownBlock ∧ (v'.ownBlock = v.ownBlock ∨ ∃ b, v'.ownBlock = some b ∧ w.heap.size ≤ b) := by
  obtain ⟨i0, hi, hz0, hz1, hz2⟩ := info_parts Try.info5
  obtain ⟨v', w', hr, ho, hg, _, hat⟩ := run_append_own_at (P := Try.prog) w base 24 ty 5 i0 (.int .u8 0) 1 1 Try.underlying24 hi hz0 hz1 hz2 rfl (by omega) v l.length (Lib.byteCells l) h
    ⟨g, 0, none⟩ 1 1 (Lib.byteCells [c]) (by simp [Lib.byteCells]) (World.ownsRow.cells hc (g := g) rfl) (by intro u hu; simp [Lib.byteCells] at hu; subst hu; rfl) (by unfold maxLen; omega) (by omega) hb
  refine ⟨v', w', hr, ?_, (Below.refl base w).grown hg hb (fun k hk => own_base h k hk), hg, hat.imp id fun e => ⟨_, e, Nat.le_refl _⟩⟩
  unfold BR
  rw [Lib.byteCells_append]
  simpa using ho
/-- Two rows of the call's own, apart. -/
structure Two (w0 W : World) (va : Value) (la : List UInt8) (vb : Value) (lb : List UInt8) : Prop where
  a : BR W w0.heap.size va la
  b : BR W w0.heap.size vb lb
  ne : NeRow va vb
  low : Below w0.heap.size w0 W
theorem Two.swap {w0 W : World} {va vb : Value} {la lb : List UInt8} (h : Two w0 W va la vb lb) : Two w0 W vb lb va la := ⟨h.b, h.a, ne_symm h.ne, h.low⟩
theorem Two.below {w0 W W' : World} {va vb : Value} {la lb : List UInt8} (h : Two w0 W va la vb lb) (hb : Below W.heap.size W W') : Two w0 W' va la vb lb := ⟨h.a.below hb, h.b.below hb, h.ne, h.low.trans (hb.mono h.low.size)⟩
/-- .. with a literal beside them. -/
structure Three (w0 W : World) (va : Value) (la : List UInt8) (vb : Value) (lb : List UInt8) (g : Nat) (c : UInt8) : Prop where
  t : Two w0 W va la vb lb
  l : BR W w0.heap.size (.slice (some ⟨g, 0, none⟩) 1 1) [c]
  na : NeRow va (.slice (some ⟨g, 0, none⟩) 1 1)
theorem Three.below {w0 W W' : World} {va vb : Value} {la lb : List UInt8} {g : Nat} {c : UInt8} (h : Three w0 W va la vb lb g c) (hb : Below W.heap.size W W') : Three w0 W' va la vb lb g c := ⟨h.t.below hb, h.l.below hb, h.na⟩
theorem Two.lit {w0 W : World} {va vb : Value} {la lb : List UInt8} (h : Two w0 W va la vb lb) (c : UInt8) : Three w0 (W.alloc (.cells #[.int .u8 (c.toNat : Int)] 5)) va la vb lb W.heap.size c :=
  ⟨⟨h.a.alloc _, h.b.alloc _, h.ne, h.low.alloc h.low.size _⟩, BR.lit W _ c h.low.size, ne_symm (ne_made h.a)⟩
section
variable {w0 W : World} {va vb : Value} {la lb : List UInt8}
theorem Two.str (h : Two w0 W va la vb lb) (ty : TypeId) (s : ByteArray) (hl : la.length + s.size ≤ 1000000000000) :
    ∃ v' W', (Builtin.append_ #[24, 9] ty #[va, .string s]).run Try.prog W = .ok v' W' ∧ Two w0 W' v' (la ++ dl s) vb lb := by
  obtain ⟨v', W', hr, ho, hb, hg, hat⟩ := h.a.str2 ty s h.low.size hl
  exact ⟨v', W', hr, ho, h.b.other hg h.ne, ne_append h.ne hat h.b, h.low.trans hb⟩
theorem Three.str {g : Nat} {c : UInt8} (h : Three w0 W va la vb lb g c) (ty : TypeId) (s : ByteArray) (hl : la.length + s.size ≤ 1000000000000) :
    ∃ v' W', (Builtin.append_ #[24, 9] ty #[va, .string s]).run Try.prog W = .ok v' W' ∧ Three w0 W' v' (la ++ dl s) vb lb g c := by
  obtain ⟨v', W', hr, ho, hb, hg, hat⟩ := h.t.a.str2 ty s h.t.low.size hl
  exact ⟨v', W', hr, ⟨ho, h.t.b.other hg h.t.ne, ne_append h.t.ne hat h.t.b, h.t.low.trans hb⟩, h.l.other hg h.na, ne_append h.na hat h.l⟩
theorem Three.app {g : Nat} {c : UInt8} (h : Three w0 W va la vb lb g c) (ty : TypeId) (hl : la.length + 1 ≤ 1000000000000) :
    ∃ v' W', (Builtin.append_ #[24, 24] ty #[va, .slice (some ⟨g, 0, none⟩) 1 1]).run Try.prog W = .ok v' W' ∧ Two w0 W' v' (la ++ [c]) vb lb := by
  obtain ⟨v', W', hr, ho, hb, hg, hat⟩ := h.t.a.app2 ty h.l h.t.low.size hl
  exact ⟨v', W', hr, ho, h.t.b.other hg h.t.ne, ne_append h.t.ne hat h.t.b, h.t.low.trans hb⟩
end
section
variable {ops : Array Oper} {rest : List Oper} {o : Oper} {a : Act} {Q : Exit → Act → World → Prop} {K : Act → World → Prop} {E : Prop} {w0 W : World} {va vb : Value} {la lb : List UInt8}
theorem step_two_str (hgd : o.guard = none) (sl x : Operand) (ho : o.op = .call { callee := .builtin .append, args := #[sl, x], argTypes := #[24, 9] })
    (s : ByteArray) (hs : a.eval sl = va) (hx : a.eval x = .string s) (h2 : Two w0 W va la vb lb) (hl : la.length + s.size ≤ 1000000000000)
    (h : ∀ v' w', Two w0 w' v' (la ++ dl s) vb lb → K (a.put o.dst v') w') : if Region.wanted o (yielded ops a.tmps) = true then Oper.wp Try.prog o a W K Q else E := by
  rw [if_pos (by simp [Region.wanted, hgd])]
  obtain ⟨v', w', hr, h3⟩ := h2.str o.type s hl
  unfold Oper.wp execOp
  simp only [ho, resolve, invoke, builtin, Sem.run_bind, Sem.run_pure, Result.andThen_ok, List.map_toArray, List.map_cons, List.map_nil, hs, hx, hr]
  exact h _ _ h3
theorem step_three_str (hgd : o.guard = none) (sl x : Operand) (ho : o.op = .call { callee := .builtin .append, args := #[sl, x], argTypes := #[24, 9] })
    (s : ByteArray) (hs : a.eval sl = va) (hx : a.eval x = .string s) {g : Nat} {c : UInt8} (h2 : Three w0 W va la vb lb g c) (hl : la.length + s.size ≤ 1000000000000)
    (h : ∀ v' w', Three w0 w' v' (la ++ dl s) vb lb g c → K (a.put o.dst v') w') : if Region.wanted o (yielded ops a.tmps) = true then Oper.wp Try.prog o a W K Q else E := by
  rw [if_pos (by simp [Region.wanted, hgd])]
  obtain ⟨v', w', hr, h3⟩ := h2.str o.type s hl
  unfold Oper.wp execOp
  simp only [ho, resolve, invoke, builtin, Sem.run_bind, Sem.run_pure, Result.andThen_ok, List.map_toArray, List.map_cons, List.map_nil, hs, hx, hr]
  exact h _ _ h3
theorem step_three_app (hgd : o.guard = none) (sl x : Operand) (ho : o.op = .call { callee := .builtin .append, args := #[sl, x], argTypes := #[24, 24] })
    {g : Nat} {c : UInt8} (hs : a.eval sl = va) (hx : a.eval x = .slice (some ⟨g, 0, none⟩) 1 1) (h2 : Three w0 W va la vb lb g c) (hl : la.length + 1 ≤ 1000000000000)
    (h : ∀ v' w', Two w0 w' v' (la ++ [c]) vb lb → K (a.put o.dst v') w') : if Region.wanted o (yielded ops a.tmps) = true then Oper.wp Try.prog o a W K Q else E := by
  rw [if_pos (by simp [Region.wanted, hgd])]
  obtain ⟨v', w', hr, h3⟩ := h2.app o.type hl
  unfold Oper.wp execOp
  simp only [ho, resolve, invoke, builtin, Sem.run_bind, Sem.run_pure, Result.andThen_ok, List.map_toArray, List.map_cons, List.map_nil, hs, hx, hr]
  exact h _ _ h3
theorem wp_three_app (hgd : o.guard = none) (sl x : Operand) (ho : o.op = .call { callee := .builtin .append, args := #[sl, x], argTypes := #[24, 24] })
    {g : Nat} {c : UInt8} (hs : a.eval sl = va) (hx : a.eval x = .slice (some ⟨g, 0, none⟩) 1 1) (h2 : Three w0 W va la vb lb g c) (hl : la.length + 1 ≤ 1000000000000)
    (h : ∀ v' w', Two w0 w' v' (la ++ [c]) vb lb → wpList Try.prog ops Q rest (a.put o.dst v') w') : wpList Try.prog ops Q (o :: rest) a W := by
  refine wpList_plain hgd fun K hK => ?_
  obtain ⟨v', w', hr, h3⟩ := h2.app o.type hl
  unfold Oper.wp execOp
  simp only [ho, resolve, invoke, builtin, Sem.run_bind, Sem.run_pure, Result.andThen_ok, List.map_toArray, List.map_cons, List.map_nil, hs, hx, hr]
  exact hK _ _ (h _ _ h3)
end
end Go.Proofs.Ytfephmhphkmegaa.Hd
